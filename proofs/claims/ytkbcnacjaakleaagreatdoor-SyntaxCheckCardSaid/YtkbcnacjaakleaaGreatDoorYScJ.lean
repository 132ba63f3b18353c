/- The document's may, class by class. -/
import Derived.Test.YtkbcnacjaakleaaGreatDoorYScI
set_option maxRecDepth 100000
set_option maxHeartbeats 32000000
set_option linter.unusedVariables false
set_option linter.unusedSimpArgs false
namespace Go.Proofs.YtkbcnacjaakleaaGreatDoor
open Go.RowKit

theorem rmay_9 (w : World) (ok : Nat → Prop) (d : Nat) (n : Int) (a t : ByteArray) (names : List ByteArray) (kids : List Nd) (qn : Option Addr) (cn : Nat) (ql : Option Addr) (cl : Nat) (hn : TxtsAt ok w (.slice qn names.length cn) names) (hkd : KidsAt ok w d (.slice ql kids.length cl) kids) (hnm : names.length ≤ 140737488355328) (hkm : kids.length ≤ 140737488355328) (hs : ∀ x ∈ kids, In64 x.k)
  (hsub : SubN w ok d kids fun y v W => Calls Tryz.prog 44 #[v] W fun e w' => e = .returned (.bool (rmayN y)) ∧ Ext W w') :
  Calls Tryz.prog 44 #[.agg #[.int .i64 9, .string a, .string t, .int .i64 n, .slice qn names.length cn, .slice ql kids.length cl]] w fun e w' => e = .returned (.bool (rnodeP 9 a t n names kids && rmayL kids)) ∧ Ext w w' := by
 have HKD := Lib.hid (fun W (e : Ext w W) => rkids_all W ok d 9 a t n qn names.length cn ql cl kids (hkd.ext e) hkm hs (by decide))
 have HSUB := Lib.hid hsub
 obtain ⟨r, hr⟩ : ∃ r, (rnodeP 9 a t n names kids && rmayL kids) = r := ⟨_, rfl⟩
 rw [hr]
 have HR := Lib.hid hr
 obtain ⟨nl, hnl⟩ : ∃ n, names.length = n := ⟨_, rfl⟩
 obtain ⟨kl, hkl⟩ : ∃ n, kids.length = n := ⟨_, rfl⟩
 have HNL := Lib.hid hnl
 have HKL := Lib.hid hkl
 rw [hnl] at hnm HKD hn
 rw [hkl] at hkm HKD hkd
 rw [hnl, hkl]
 have HN0 := Lib.hid hn
 have HK0 := Lib.hid hkd
 have HE := Lib.hid ((Ext.refl w).alloc (.cells #[.int .i64 9, .string a, .string t, .int .i64 n, .slice qn nl cn, .slice ql kl cl] 28))
 have HB := Lib.hid (fun W => nd_box (w := w) (W := W) (x := .mk 9 a t n names kids) (nv := .slice qn nl cn) (lv := .slice ql kl cl))
 simp only [Nd.k, Nd.name, Nd.text, Nd.n] at HB
 clear hn hkd hsub hs hr hnl hkl
 cases F0 : rkidsP 9 nl kids with
 | false =>
  rw [F0] at HKD
  have hrr : r = false := by rw [← HR.out]; simp [rnodeP, hasName, HNL.out, F0]
  subst hrr
  clear F0 HR
  go_enter Tryz.func44, Tryz.ntmps44
  go_wp2_with fail
  refine (HKD.out _ HE.out).mono ?_
  rintro e w1 ⟨rfl, e1⟩
  have E1 := Lib.hid (HE.out.trans e1)
  obtain ⟨c0, c1, c2, c3, c4, c5⟩ := HB.out w1 e1
  have B1 := Lib.hid e1
  clear e1 HKD
  go_wp2_with fail
  go_ret
  exact ⟨rfl, E1.out⟩
 | true =>
  rw [F0] at HKD
  have HF0 := Lib.hid F0
  clear F0
  cases F1 : nameP a.data.toList with
  | false =>
   have FN := Lib.hid F1
   have hrr : r = false := by rw [← HR.out]; simp [rnodeP, hasName, HNL.out, HF0.out, F1]
   subst hrr
   clear F1 HR
   go_enter Tryz.func44, Tryz.ntmps44
   go_wp2_with fail
   refine (HKD.out _ HE.out).mono ?_
   rintro e w1 ⟨rfl, e1⟩
   have E1 := Lib.hid (HE.out.trans e1)
   obtain ⟨c0, c1, c2, c3, c4, c5⟩ := HB.out w1 e1
   have B1 := Lib.hid e1
   clear e1 HKD
   go_wp2_with fail
   refine (rname_any w1 a).mono ?_
   rintro e w2 ⟨rfl, e2⟩
   rw [FN.out]
   clear c0 c1 c2 c3 c4 c5
   have E2 := Lib.hid (E1.out.trans e2)
   obtain ⟨c0, c1, c2, c3, c4, c5⟩ := HB.out w2 (B1.out.trans e2)
   have B2 := Lib.hid (B1.out.trans e2)
   clear e2
   go_wp2_with fail
   go_ret
   exact ⟨rfl, E2.out⟩
  | true =>
   have FN := Lib.hid F1
   clear F1
   by_cases ht : t = eB
   rotate_left
   ·obtain ⟨y1, y2, y3, y4⟩ := ne_empty ht
    have hrr : r = false := by rw [← HR.out]; simp [rnodeP, hasName, HNL.out, HF0.out, FN.out, y4]
    subst hrr
    clear y4 HR ht
    go_enter Tryz.func44, Tryz.ntmps44
    go_wp2_with fail
    refine (HKD.out _ HE.out).mono ?_
    rintro e w1 ⟨rfl, e1⟩
    have E1 := Lib.hid (HE.out.trans e1)
    obtain ⟨c0, c1, c2, c3, c4, c5⟩ := HB.out w1 e1
    have B1 := Lib.hid e1
    clear e1 HKD
    go_wp2_with fail
    refine (rname_any w1 a).mono ?_
    rintro e w2 ⟨rfl, e2⟩
    rw [FN.out]
    clear c0 c1 c2 c3 c4 c5
    have E2 := Lib.hid (E1.out.trans e2)
    obtain ⟨c0, c1, c2, c3, c4, c5⟩ := HB.out w2 (B1.out.trans e2)
    have B2 := Lib.hid (B1.out.trans e2)
    clear e2
    go_wp2_with fail
    go_ret
    exact ⟨rfl, E2.out⟩
   subst ht
   have y5 : (eB == eB) = true := (ba_iff _ _).2 rfl
   have FT := Lib.hid y5
   clear y5
   by_cases hz : n = 0
   rotate_left
   ·have y1 : (n != 0) = true := bne_iff_ne.2 hz
    have y2 : (n == 0) = false := beq_eq_false_iff_ne.2 hz
    have hrr : r = false := by rw [← HR.out]; simp [rnodeP, hasName, HNL.out, HF0.out, FN.out, FT.out, hz]
    subst hrr
    clear hz HR
    go_enter Tryz.func44, Tryz.ntmps44
    go_wp2_with fail
    refine (HKD.out _ HE.out).mono ?_
    rintro e w1 ⟨rfl, e1⟩
    have E1 := Lib.hid (HE.out.trans e1)
    obtain ⟨c0, c1, c2, c3, c4, c5⟩ := HB.out w1 e1
    have B1 := Lib.hid e1
    clear e1 HKD
    go_wp2_with fail
    refine (rname_any w1 a).mono ?_
    rintro e w2 ⟨rfl, e2⟩
    rw [FN.out]
    clear c0 c1 c2 c3 c4 c5
    have E2 := Lib.hid (E1.out.trans e2)
    obtain ⟨c0, c1, c2, c3, c4, c5⟩ := HB.out w2 (B1.out.trans e2)
    have B2 := Lib.hid (B1.out.trans e2)
    clear e2
    go_wp2_with fail
    go_ret
    exact ⟨rfl, E2.out⟩
   subst hz
   have HR2 : Hid ((names.all (fun x => nameP x.data.toList) && rmayL kids) = r) := Lib.hid (by rw [← HR.out]; simp [rnodeP, hasName, HNL.out, HF0.out, FN.out, FT.out])
   clear HR
   go_enter Tryz.func44, Tryz.ntmps44
   go_wp2_with fail
   refine (HKD.out _ HE.out).mono ?_
   rintro e w1 ⟨rfl, e1⟩
   have E1 := Lib.hid (HE.out.trans e1)
   obtain ⟨c0, c1, c2, c3, c4, c5⟩ := HB.out w1 e1
   have B1 := Lib.hid e1
   clear e1 HKD
   go_wp2_with fail
   refine (rname_any w1 a).mono ?_
   rintro e w2 ⟨rfl, e2⟩
   rw [FN.out]
   clear c0 c1 c2 c3 c4 c5
   have E2 := Lib.hid (E1.out.trans e2)
   obtain ⟨c0, c1, c2, c3, c4, c5⟩ := HB.out w2 (B1.out.trans e2)
   have B2 := Lib.hid (B1.out.trans e2)
   clear e2
   go_wp2_with fail
   clear c0 c1 c2 c3 c4 c5
   go_loopw [5] (fun v wr => ∃ j : Nat, j ≤ nl ∧ v = .int .i64 j ∧ Hid (((names.drop j).all (fun x => nameP x.data.toList) && rmayL kids) = r) ∧ Hid (Ext (w.alloc (.cells #[.int .i64 9, .string a, .string eB, .int .i64 0, .slice qn nl cn, .slice ql kl cl] 28)) wr)) (fun v _ => nl - (intOf v).toNat)
   case atStart => exact ⟨0, Nat.zero_le _, rfl, HR2, B2⟩
   case round =>
    obtain ⟨j, hj, rfl, HA, HX⟩ := hrel
    obtain ⟨c0, c1, c2, c3, c4, c5⟩ := HB.out wr HX.out
    by_cases hlt : j < nl
    ·have kl : j < names.length := by rw [HNL.out]; exact hlt
     obtain ⟨b, o, rfl, d0⟩ := ((by have := HN0.out; exact this : TxtsAt ok w (.slice qn nl cn) names).ext (HE.out.trans HX.out)).elem kl
     have hA := HA.out
     rw [all_drop' _ names j kl] at hA
     obtain ⟨y, hy⟩ : ∃ y, names[j] = y := ⟨_, rfl⟩
     rw [hy] at d0 hA
     have k0 : (0 : Int) ≤ (j : Int) := by omega
     have k1 : (j : Int) < (nl : Int) := by omega
     have k2 : decide ((j : Int) < (nl : Int)) = true := decide_eq_true k1
     have k3 : decide (j < nl) = true := decide_eq_true hlt
     have HA2 := Lib.hid hA
     clear hy kl hA
     go_wp2_with fail
     refine (rname_any wr y).mono ?_
     rintro e w3 ⟨rfl, e3⟩
     have HX3 := Lib.hid (HX.out.trans e3)
     clear e3 c0 c1 c2 c3 c4 c5
     cases hb : nameP y.data.toList with
     | false =>
      have hrr : r = false := by rw [← HA2.out, hb]; rfl
      subst hrr
      clear hb
      go_wp2_with fail
      go_ret
      exact ⟨rfl, HE.out.trans HX3.out⟩
     | true =>
      have HA3 : Hid (((names.drop (j + 1)).all (fun x => nameP x.data.toList) && rmayL kids) = r) := Lib.hid (by rw [← HA2.out, hb]; rfl)
      clear hb
      go_wp2_with fail
      go_roundw
      case rel => exact ⟨j + 1, hlt, by go_num, HA3, HX3⟩
      case measure => simp [intOf]; omega
    ·obtain rfl : nl = j := by omega
     have k2 : decide ((nl : Int) < (nl : Int)) = false := decide_eq_false (by omega)
     have HA2 : Hid (rmayL kids = r) := Lib.hid (by
      have h1 := HA.out
      rw [List.drop_eq_nil_of_le (by rw [HNL.out]; exact Nat.le_refl _)] at h1
      exact h1)
     go_wp2_with fail
     clear c0 c1 c2 c3 c4 c5 k2
     go_loopw [6] (fun v wr2 => ∃ i : Nat, i ≤ kl ∧ v = .int .i64 i ∧ Hid (rmayL (kids.drop i) = r) ∧ Hid (Ext (w.alloc (.cells #[.int .i64 9, .string a, .string eB, .int .i64 0, .slice qn nl cn, .slice ql kl cl] 28)) wr2)) (fun v _ => kl - (intOf v).toNat)
     case atStart => exact ⟨0, Nat.zero_le _, rfl, HA2, HX⟩
     case round =>
      obtain ⟨i, hi, rfl, HC, HX2⟩ := hrel
      obtain ⟨c0, c1, c2, c3, c4, c5⟩ := HB.out _ HX2.out
      by_cases hlt2 : i < kl
      ·have kl' : i < kids.length := by rw [HKL.out]; exact hlt2
       obtain ⟨b, o, qn', cn', ql', cl', rfl, d0, d1, d2, d3, d4, d5, hnd⟩ := ((by have := HK0.out; rw [← HKL.out] at this; exact this : KidsAt ok w d (.slice ql kids.length cl) kids).ext (HE.out.trans HX2.out)).node kl'
       have hcc := HSUB.out kids[i] (List.getElem_mem kl') _ _ (HE.out.trans HX2.out) hnd
       have hd2 := rmayL_drop kids i kl'
       rw [HC.out] at hd2
       obtain ⟨y, hy⟩ : ∃ y, kids[i] = y := ⟨_, rfl⟩
       rw [hy] at d0 d1 d2 d3 d4 d5 hd2 hcc
       generalize y.names.length = yn at *
       generalize y.kids.length = yk at *
       have k0 : (0 : Int) ≤ (i : Int) := by omega
       have k1 : (i : Int) < (kl : Int) := by omega
       have k2 : decide ((i : Int) < (kl : Int)) = true := decide_eq_true k1
       have k3 : decide (i < kl) = true := decide_eq_true hlt2
       have HD := Lib.hid hd2
       have HCC := Lib.hid hcc
       clear hnd hy kl' hd2 hcc
       go_wp2_with fail
       refine HCC.out.mono ?_
       rintro e w3 ⟨rfl, e3⟩
       have HX3 := Lib.hid (HX2.out.trans e3)
       clear e3 HCC c0 c1 c2 c3 c4 c5 d0 d1 d2 d3 d4 d5
       cases hb : rmayN y with
       | false =>
        have hrr : r = false := by rw [HD.out, hb]; rfl
        subst hrr
        clear hb
        go_wp2_with fail
        go_ret
        exact ⟨rfl, HE.out.trans HX3.out⟩
       | true =>
        have HD2 : Hid (rmayL (kids.drop (i + 1)) = r) := Lib.hid (by rw [HD.out, hb]; rfl)
        clear hb
        go_wp2_with fail
        go_roundw
        case rel => exact ⟨i + 1, hlt2, by go_num, HD2, HX3⟩
        case measure => simp [intOf]; omega
      ·obtain rfl : kl = i := by omega
       have hrr : r = true := by
        rw [← HC.out, List.drop_eq_nil_of_le (by rw [HKL.out]; exact Nat.le_refl _)]; rfl
       subst hrr
       have k2 : decide ((kl : Int) < (kl : Int)) = false := decide_eq_false (by omega)
       go_wp2_with fail
       go_ret
       exact ⟨rfl, HE.out.trans HX2.out⟩
theorem rmay_15 (w : World) (ok : Nat → Prop) (d : Nat) (n : Int) (a t : ByteArray) (names : List ByteArray) (kids : List Nd) (qn : Option Addr) (cn : Nat) (ql : Option Addr) (cl : Nat) (hn : TxtsAt ok w (.slice qn names.length cn) names) (hkd : KidsAt ok w d (.slice ql kids.length cl) kids) (hnm : names.length ≤ 140737488355328) (hkm : kids.length ≤ 140737488355328) (hs : ∀ x ∈ kids, In64 x.k)
  (hsub : SubN w ok d kids fun y v W => Calls Tryz.prog 44 #[v] W fun e w' => e = .returned (.bool (rmayN y)) ∧ Ext W w') :
  Calls Tryz.prog 44 #[.agg #[.int .i64 15, .string a, .string t, .int .i64 n, .slice qn names.length cn, .slice ql kids.length cl]] w fun e w' => e = .returned (.bool (rnodeP 15 a t n names kids && rmayL kids)) ∧ Ext w w' := by
 have HKD := Lib.hid (fun W (e : Ext w W) => rkids_all W ok d 15 a t n qn names.length cn ql cl kids (hkd.ext e) hkm hs (by decide))
 have HSUB := Lib.hid hsub
 obtain ⟨r, hr⟩ : ∃ r, (rnodeP 15 a t n names kids && rmayL kids) = r := ⟨_, rfl⟩
 rw [hr]
 have HR := Lib.hid hr
 obtain ⟨nl, hnl⟩ : ∃ n, names.length = n := ⟨_, rfl⟩
 obtain ⟨kl, hkl⟩ : ∃ n, kids.length = n := ⟨_, rfl⟩
 have HNL := Lib.hid hnl
 have HKL := Lib.hid hkl
 rw [hnl] at hnm HKD hn
 rw [hkl] at hkm HKD hkd
 rw [hnl, hkl]
 have HN0 := Lib.hid hn
 have HK0 := Lib.hid hkd
 have HE := Lib.hid ((Ext.refl w).alloc (.cells #[.int .i64 15, .string a, .string t, .int .i64 n, .slice qn nl cn, .slice ql kl cl] 28))
 have HB := Lib.hid (fun W => nd_box (w := w) (W := W) (x := .mk 15 a t n names kids) (nv := .slice qn nl cn) (lv := .slice ql kl cl))
 simp only [Nd.k, Nd.name, Nd.text, Nd.n] at HB
 clear hn hkd hsub hs hr hnl hkl
 cases F0 : rkidsP 15 nl kids with
 | false =>
  rw [F0] at HKD
  have hrr : r = false := by rw [← HR.out]; simp [rnodeP, hasName, HNL.out, F0]
  subst hrr
  clear F0 HR
  go_enter Tryz.func44, Tryz.ntmps44
  go_wp2_with fail
  refine (HKD.out _ HE.out).mono ?_
  rintro e w1 ⟨rfl, e1⟩
  have E1 := Lib.hid (HE.out.trans e1)
  obtain ⟨c0, c1, c2, c3, c4, c5⟩ := HB.out w1 e1
  have B1 := Lib.hid e1
  clear e1 HKD
  go_wp2_with fail
  go_ret
  exact ⟨rfl, E1.out⟩
 | true =>
  rw [F0] at HKD
  have HF0 := Lib.hid F0
  clear F0
  cases F1 : nameP a.data.toList with
  | false =>
   have FN := Lib.hid F1
   have hrr : r = false := by rw [← HR.out]; simp [rnodeP, hasName, HNL.out, HF0.out, F1]
   subst hrr
   clear F1 HR
   go_enter Tryz.func44, Tryz.ntmps44
   go_wp2_with fail
   refine (HKD.out _ HE.out).mono ?_
   rintro e w1 ⟨rfl, e1⟩
   have E1 := Lib.hid (HE.out.trans e1)
   obtain ⟨c0, c1, c2, c3, c4, c5⟩ := HB.out w1 e1
   have B1 := Lib.hid e1
   clear e1 HKD
   go_wp2_with fail
   refine (rname_any w1 a).mono ?_
   rintro e w2 ⟨rfl, e2⟩
   rw [FN.out]
   clear c0 c1 c2 c3 c4 c5
   have E2 := Lib.hid (E1.out.trans e2)
   obtain ⟨c0, c1, c2, c3, c4, c5⟩ := HB.out w2 (B1.out.trans e2)
   have B2 := Lib.hid (B1.out.trans e2)
   clear e2
   go_wp2_with fail
   go_ret
   exact ⟨rfl, E2.out⟩
  | true =>
   have FN := Lib.hid F1
   clear F1
   by_cases ht : t = eB
   rotate_left
   ·obtain ⟨y1, y2, y3, y4⟩ := ne_empty ht
    have hrr : r = false := by rw [← HR.out]; simp [rnodeP, hasName, HNL.out, HF0.out, FN.out, y4]
    subst hrr
    clear y4 HR ht
    go_enter Tryz.func44, Tryz.ntmps44
    go_wp2_with fail
    refine (HKD.out _ HE.out).mono ?_
    rintro e w1 ⟨rfl, e1⟩
    have E1 := Lib.hid (HE.out.trans e1)
    obtain ⟨c0, c1, c2, c3, c4, c5⟩ := HB.out w1 e1
    have B1 := Lib.hid e1
    clear e1 HKD
    go_wp2_with fail
    refine (rname_any w1 a).mono ?_
    rintro e w2 ⟨rfl, e2⟩
    rw [FN.out]
    clear c0 c1 c2 c3 c4 c5
    have E2 := Lib.hid (E1.out.trans e2)
    obtain ⟨c0, c1, c2, c3, c4, c5⟩ := HB.out w2 (B1.out.trans e2)
    have B2 := Lib.hid (B1.out.trans e2)
    clear e2
    go_wp2_with fail
    go_ret
    exact ⟨rfl, E2.out⟩
   subst ht
   have y5 : (eB == eB) = true := (ba_iff _ _).2 rfl
   have FT := Lib.hid y5
   clear y5
   by_cases hz : n = 0
   rotate_left
   ·have y1 : (n != 0) = true := bne_iff_ne.2 hz
    have y2 : (n == 0) = false := beq_eq_false_iff_ne.2 hz
    have hrr : r = false := by rw [← HR.out]; simp [rnodeP, hasName, HNL.out, HF0.out, FN.out, FT.out, hz]
    subst hrr
    clear hz HR
    go_enter Tryz.func44, Tryz.ntmps44
    go_wp2_with fail
    refine (HKD.out _ HE.out).mono ?_
    rintro e w1 ⟨rfl, e1⟩
    have E1 := Lib.hid (HE.out.trans e1)
    obtain ⟨c0, c1, c2, c3, c4, c5⟩ := HB.out w1 e1
    have B1 := Lib.hid e1
    clear e1 HKD
    go_wp2_with fail
    refine (rname_any w1 a).mono ?_
    rintro e w2 ⟨rfl, e2⟩
    rw [FN.out]
    clear c0 c1 c2 c3 c4 c5
    have E2 := Lib.hid (E1.out.trans e2)
    obtain ⟨c0, c1, c2, c3, c4, c5⟩ := HB.out w2 (B1.out.trans e2)
    have B2 := Lib.hid (B1.out.trans e2)
    clear e2
    go_wp2_with fail
    go_ret
    exact ⟨rfl, E2.out⟩
   subst hz
   by_cases hq : nl = 0
   rotate_left
   ·have z1 : decide ((0 : Int) < (nl : Int)) = true := decide_eq_true (by omega)
    have z4 : decide (0 < nl) = true := decide_eq_true (by omega)
    have z3 : names.length = 0 → False := fun e => hq (HNL.out.symm.trans e)
    have z5 : (names == []) = false := by
     cases names with
     | nil => exact absurd rfl z3
     | cons _ _ => rfl
    have z6 : ¬ names = [] := fun e => z3 (by rw [e]; rfl)
    have hrr : r = false := by rw [← HR.out]; simp [rnodeP, hasName, HNL.out, HF0.out, FN.out, FT.out, hq]
    subst hrr
    clear hq HR z3 z5 z6
    go_enter Tryz.func44, Tryz.ntmps44
    go_wp2_with fail
    refine (HKD.out _ HE.out).mono ?_
    rintro e w1 ⟨rfl, e1⟩
    have E1 := Lib.hid (HE.out.trans e1)
    obtain ⟨c0, c1, c2, c3, c4, c5⟩ := HB.out w1 e1
    have B1 := Lib.hid e1
    clear e1 HKD
    go_wp2_with fail
    refine (rname_any w1 a).mono ?_
    rintro e w2 ⟨rfl, e2⟩
    rw [FN.out]
    clear c0 c1 c2 c3 c4 c5
    have E2 := Lib.hid (E1.out.trans e2)
    obtain ⟨c0, c1, c2, c3, c4, c5⟩ := HB.out w2 (B1.out.trans e2)
    have B2 := Lib.hid (B1.out.trans e2)
    clear e2
    go_wp2_with fail
    go_ret
    exact ⟨rfl, E2.out⟩
   have z1 : decide ((0 : Int) < (nl : Int)) = false := decide_eq_false (by omega)
   have z4 : decide (0 < nl) = false := decide_eq_false (by omega)
   have FQ := Lib.hid hq
   have HF1 : Hid (rkidsP 15 0 kids = true) := Lib.hid (by rw [← hq]; exact HF0.out)
   clear hq
   have HR2 : Hid ((names.all (fun x => nameP x.data.toList) && rmayL kids) = r) := Lib.hid (by rw [← HR.out]; simp [rnodeP, hasName, HNL.out, HF0.out, FN.out, FT.out, FQ.out, HF1.out])
   clear HR
   go_enter Tryz.func44, Tryz.ntmps44
   go_wp2_with fail
   refine (HKD.out _ HE.out).mono ?_
   rintro e w1 ⟨rfl, e1⟩
   have E1 := Lib.hid (HE.out.trans e1)
   obtain ⟨c0, c1, c2, c3, c4, c5⟩ := HB.out w1 e1
   have B1 := Lib.hid e1
   clear e1 HKD
   go_wp2_with fail
   refine (rname_any w1 a).mono ?_
   rintro e w2 ⟨rfl, e2⟩
   rw [FN.out]
   clear c0 c1 c2 c3 c4 c5
   have E2 := Lib.hid (E1.out.trans e2)
   obtain ⟨c0, c1, c2, c3, c4, c5⟩ := HB.out w2 (B1.out.trans e2)
   have B2 := Lib.hid (B1.out.trans e2)
   clear e2
   go_wp2_with fail
   clear c0 c1 c2 c3 c4 c5
   go_loopw [5] (fun v wr => ∃ j : Nat, j ≤ nl ∧ v = .int .i64 j ∧ Hid (((names.drop j).all (fun x => nameP x.data.toList) && rmayL kids) = r) ∧ Hid (Ext (w.alloc (.cells #[.int .i64 15, .string a, .string eB, .int .i64 0, .slice qn nl cn, .slice ql kl cl] 28)) wr)) (fun v _ => nl - (intOf v).toNat)
   case atStart => exact ⟨0, Nat.zero_le _, rfl, HR2, B2⟩
   case round =>
    obtain ⟨j, hj, rfl, HA, HX⟩ := hrel
    obtain ⟨c0, c1, c2, c3, c4, c5⟩ := HB.out wr HX.out
    by_cases hlt : j < nl
    ·have kl : j < names.length := by rw [HNL.out]; exact hlt
     obtain ⟨b, o, rfl, d0⟩ := ((by have := HN0.out; exact this : TxtsAt ok w (.slice qn nl cn) names).ext (HE.out.trans HX.out)).elem kl
     have hA := HA.out
     rw [all_drop' _ names j kl] at hA
     obtain ⟨y, hy⟩ : ∃ y, names[j] = y := ⟨_, rfl⟩
     rw [hy] at d0 hA
     have k0 : (0 : Int) ≤ (j : Int) := by omega
     have k1 : (j : Int) < (nl : Int) := by omega
     have k2 : decide ((j : Int) < (nl : Int)) = true := decide_eq_true k1
     have k3 : decide (j < nl) = true := decide_eq_true hlt
     have HA2 := Lib.hid hA
     clear hy kl hA
     go_wp2_with fail
     refine (rname_any wr y).mono ?_
     rintro e w3 ⟨rfl, e3⟩
     have HX3 := Lib.hid (HX.out.trans e3)
     clear e3 c0 c1 c2 c3 c4 c5
     cases hb : nameP y.data.toList with
     | false =>
      have hrr : r = false := by rw [← HA2.out, hb]; rfl
      subst hrr
      clear hb
      go_wp2_with fail
      go_ret
      exact ⟨rfl, HE.out.trans HX3.out⟩
     | true =>
      have HA3 : Hid (((names.drop (j + 1)).all (fun x => nameP x.data.toList) && rmayL kids) = r) := Lib.hid (by rw [← HA2.out, hb]; rfl)
      clear hb
      go_wp2_with fail
      go_roundw
      case rel => exact ⟨j + 1, hlt, by go_num, HA3, HX3⟩
      case measure => simp [intOf]; omega
    ·obtain rfl : nl = j := by omega
     have k2 : decide ((nl : Int) < (nl : Int)) = false := decide_eq_false (by omega)
     have HA2 : Hid (rmayL kids = r) := Lib.hid (by
      have h1 := HA.out
      rw [List.drop_eq_nil_of_le (by rw [HNL.out]; exact Nat.le_refl _)] at h1
      exact h1)
     go_wp2_with fail
     clear c0 c1 c2 c3 c4 c5 k2
     go_loopw [6] (fun v wr2 => ∃ i : Nat, i ≤ kl ∧ v = .int .i64 i ∧ Hid (rmayL (kids.drop i) = r) ∧ Hid (Ext (w.alloc (.cells #[.int .i64 15, .string a, .string eB, .int .i64 0, .slice qn nl cn, .slice ql kl cl] 28)) wr2)) (fun v _ => kl - (intOf v).toNat)
     case atStart => exact ⟨0, Nat.zero_le _, rfl, HA2, HX⟩
     case round =>
      obtain ⟨i, hi, rfl, HC, HX2⟩ := hrel
      obtain ⟨c0, c1, c2, c3, c4, c5⟩ := HB.out _ HX2.out
      by_cases hlt2 : i < kl
      ·have kl' : i < kids.length := by rw [HKL.out]; exact hlt2
       obtain ⟨b, o, qn', cn', ql', cl', rfl, d0, d1, d2, d3, d4, d5, hnd⟩ := ((by have := HK0.out; rw [← HKL.out] at this; exact this : KidsAt ok w d (.slice ql kids.length cl) kids).ext (HE.out.trans HX2.out)).node kl'
       have hcc := HSUB.out kids[i] (List.getElem_mem kl') _ _ (HE.out.trans HX2.out) hnd
       have hd2 := rmayL_drop kids i kl'
       rw [HC.out] at hd2
       obtain ⟨y, hy⟩ : ∃ y, kids[i] = y := ⟨_, rfl⟩
       rw [hy] at d0 d1 d2 d3 d4 d5 hd2 hcc
       generalize y.names.length = yn at *
       generalize y.kids.length = yk at *
       have k0 : (0 : Int) ≤ (i : Int) := by omega
       have k1 : (i : Int) < (kl : Int) := by omega
       have k2 : decide ((i : Int) < (kl : Int)) = true := decide_eq_true k1
       have k3 : decide (i < kl) = true := decide_eq_true hlt2
       have HD := Lib.hid hd2
       have HCC := Lib.hid hcc
       clear hnd hy kl' hd2 hcc
       go_wp2_with fail
       refine HCC.out.mono ?_
       rintro e w3 ⟨rfl, e3⟩
       have HX3 := Lib.hid (HX2.out.trans e3)
       clear e3 HCC c0 c1 c2 c3 c4 c5 d0 d1 d2 d3 d4 d5
       cases hb : rmayN y with
       | false =>
        have hrr : r = false := by rw [HD.out, hb]; rfl
        subst hrr
        clear hb
        go_wp2_with fail
        go_ret
        exact ⟨rfl, HE.out.trans HX3.out⟩
       | true =>
        have HD2 : Hid (rmayL (kids.drop (i + 1)) = r) := Lib.hid (by rw [HD.out, hb]; rfl)
        clear hb
        go_wp2_with fail
        go_roundw
        case rel => exact ⟨i + 1, hlt2, by go_num, HD2, HX3⟩
        case measure => simp [intOf]; omega
      ·obtain rfl : kl = i := by omega
       have hrr : r = true := by
        rw [← HC.out, List.drop_eq_nil_of_le (by rw [HKL.out]; exact Nat.le_refl _)]; rfl
       subst hrr
       have k2 : decide ((kl : Int) < (kl : Int)) = false := decide_eq_false (by omega)
       go_wp2_with fail
       go_ret
       exact ⟨rfl, HE.out.trans HX2.out⟩
theorem rmay_17 (w : World) (ok : Nat → Prop) (d : Nat) (n : Int) (a t : ByteArray) (names : List ByteArray) (kids : List Nd) (qn : Option Addr) (cn : Nat) (ql : Option Addr) (cl : Nat) (hn : TxtsAt ok w (.slice qn names.length cn) names) (hkd : KidsAt ok w d (.slice ql kids.length cl) kids) (hnm : names.length ≤ 140737488355328) (hkm : kids.length ≤ 140737488355328) (hs : ∀ x ∈ kids, In64 x.k)
  (hsub : SubN w ok d kids fun y v W => Calls Tryz.prog 44 #[v] W fun e w' => e = .returned (.bool (rmayN y)) ∧ Ext W w') :
  Calls Tryz.prog 44 #[.agg #[.int .i64 17, .string a, .string t, .int .i64 n, .slice qn names.length cn, .slice ql kids.length cl]] w fun e w' => e = .returned (.bool (rnodeP 17 a t n names kids && rmayL kids)) ∧ Ext w w' := by
 have HKD := Lib.hid (fun W (e : Ext w W) => rkids_all W ok d 17 a t n qn names.length cn ql cl kids (hkd.ext e) hkm hs (by decide))
 have HSUB := Lib.hid hsub
 obtain ⟨r, hr⟩ : ∃ r, (rnodeP 17 a t n names kids && rmayL kids) = r := ⟨_, rfl⟩
 rw [hr]
 have HR := Lib.hid hr
 obtain ⟨nl, hnl⟩ : ∃ n, names.length = n := ⟨_, rfl⟩
 obtain ⟨kl, hkl⟩ : ∃ n, kids.length = n := ⟨_, rfl⟩
 have HNL := Lib.hid hnl
 have HKL := Lib.hid hkl
 rw [hnl] at hnm HKD hn
 rw [hkl] at hkm HKD hkd
 rw [hnl, hkl]
 have HN0 := Lib.hid hn
 have HK0 := Lib.hid hkd
 have HE := Lib.hid ((Ext.refl w).alloc (.cells #[.int .i64 17, .string a, .string t, .int .i64 n, .slice qn nl cn, .slice ql kl cl] 28))
 have HB := Lib.hid (fun W => nd_box (w := w) (W := W) (x := .mk 17 a t n names kids) (nv := .slice qn nl cn) (lv := .slice ql kl cl))
 simp only [Nd.k, Nd.name, Nd.text, Nd.n] at HB
 clear hn hkd hsub hs hr hnl hkl
 cases F0 : rkidsP 17 nl kids with
 | false =>
  rw [F0] at HKD
  have hrr : r = false := by rw [← HR.out]; simp [rnodeP, hasName, HNL.out, F0]
  subst hrr
  clear F0 HR
  go_enter Tryz.func44, Tryz.ntmps44
  go_wp2_with fail
  refine (HKD.out _ HE.out).mono ?_
  rintro e w1 ⟨rfl, e1⟩
  have E1 := Lib.hid (HE.out.trans e1)
  obtain ⟨c0, c1, c2, c3, c4, c5⟩ := HB.out w1 e1
  have B1 := Lib.hid e1
  clear e1 HKD
  go_wp2_with fail
  go_ret
  exact ⟨rfl, E1.out⟩
 | true =>
  rw [F0] at HKD
  have HF0 := Lib.hid F0
  clear F0
  cases F1 : nameP a.data.toList with
  | false =>
   have FN := Lib.hid F1
   have hrr : r = false := by rw [← HR.out]; simp [rnodeP, hasName, HNL.out, HF0.out, F1]
   subst hrr
   clear F1 HR
   go_enter Tryz.func44, Tryz.ntmps44
   go_wp2_with fail
   refine (HKD.out _ HE.out).mono ?_
   rintro e w1 ⟨rfl, e1⟩
   have E1 := Lib.hid (HE.out.trans e1)
   obtain ⟨c0, c1, c2, c3, c4, c5⟩ := HB.out w1 e1
   have B1 := Lib.hid e1
   clear e1 HKD
   go_wp2_with fail
   refine (rname_any w1 a).mono ?_
   rintro e w2 ⟨rfl, e2⟩
   rw [FN.out]
   clear c0 c1 c2 c3 c4 c5
   have E2 := Lib.hid (E1.out.trans e2)
   obtain ⟨c0, c1, c2, c3, c4, c5⟩ := HB.out w2 (B1.out.trans e2)
   have B2 := Lib.hid (B1.out.trans e2)
   clear e2
   go_wp2_with fail
   go_ret
   exact ⟨rfl, E2.out⟩
  | true =>
   have FN := Lib.hid F1
   clear F1
   by_cases ht : t = eB
   rotate_left
   ·obtain ⟨y1, y2, y3, y4⟩ := ne_empty ht
    have hrr : r = false := by rw [← HR.out]; simp [rnodeP, hasName, HNL.out, HF0.out, FN.out, y4]
    subst hrr
    clear y4 HR ht
    go_enter Tryz.func44, Tryz.ntmps44
    go_wp2_with fail
    refine (HKD.out _ HE.out).mono ?_
    rintro e w1 ⟨rfl, e1⟩
    have E1 := Lib.hid (HE.out.trans e1)
    obtain ⟨c0, c1, c2, c3, c4, c5⟩ := HB.out w1 e1
    have B1 := Lib.hid e1
    clear e1 HKD
    go_wp2_with fail
    refine (rname_any w1 a).mono ?_
    rintro e w2 ⟨rfl, e2⟩
    rw [FN.out]
    clear c0 c1 c2 c3 c4 c5
    have E2 := Lib.hid (E1.out.trans e2)
    obtain ⟨c0, c1, c2, c3, c4, c5⟩ := HB.out w2 (B1.out.trans e2)
    have B2 := Lib.hid (B1.out.trans e2)
    clear e2
    go_wp2_with fail
    go_ret
    exact ⟨rfl, E2.out⟩
   subst ht
   have y5 : (eB == eB) = true := (ba_iff _ _).2 rfl
   have FT := Lib.hid y5
   clear y5
   by_cases hz : n = 0
   rotate_left
   ·have y1 : (n != 0) = true := bne_iff_ne.2 hz
    have y2 : (n == 0) = false := beq_eq_false_iff_ne.2 hz
    have hrr : r = false := by rw [← HR.out]; simp [rnodeP, hasName, HNL.out, HF0.out, FN.out, FT.out, hz]
    subst hrr
    clear hz HR
    go_enter Tryz.func44, Tryz.ntmps44
    go_wp2_with fail
    refine (HKD.out _ HE.out).mono ?_
    rintro e w1 ⟨rfl, e1⟩
    have E1 := Lib.hid (HE.out.trans e1)
    obtain ⟨c0, c1, c2, c3, c4, c5⟩ := HB.out w1 e1
    have B1 := Lib.hid e1
    clear e1 HKD
    go_wp2_with fail
    refine (rname_any w1 a).mono ?_
    rintro e w2 ⟨rfl, e2⟩
    rw [FN.out]
    clear c0 c1 c2 c3 c4 c5
    have E2 := Lib.hid (E1.out.trans e2)
    obtain ⟨c0, c1, c2, c3, c4, c5⟩ := HB.out w2 (B1.out.trans e2)
    have B2 := Lib.hid (B1.out.trans e2)
    clear e2
    go_wp2_with fail
    go_ret
    exact ⟨rfl, E2.out⟩
   subst hz
   by_cases hq : nl = 0
   rotate_left
   ·have z1 : decide ((0 : Int) < (nl : Int)) = true := decide_eq_true (by omega)
    have z4 : decide (0 < nl) = true := decide_eq_true (by omega)
    have z3 : names.length = 0 → False := fun e => hq (HNL.out.symm.trans e)
    have z5 : (names == []) = false := by
     cases names with
     | nil => exact absurd rfl z3
     | cons _ _ => rfl
    have z6 : ¬ names = [] := fun e => z3 (by rw [e]; rfl)
    have hrr : r = false := by rw [← HR.out]; simp [rnodeP, hasName, HNL.out, HF0.out, FN.out, FT.out, hq]
    subst hrr
    clear hq HR z3 z5 z6
    go_enter Tryz.func44, Tryz.ntmps44
    go_wp2_with fail
    refine (HKD.out _ HE.out).mono ?_
    rintro e w1 ⟨rfl, e1⟩
    have E1 := Lib.hid (HE.out.trans e1)
    obtain ⟨c0, c1, c2, c3, c4, c5⟩ := HB.out w1 e1
    have B1 := Lib.hid e1
    clear e1 HKD
    go_wp2_with fail
    refine (rname_any w1 a).mono ?_
    rintro e w2 ⟨rfl, e2⟩
    rw [FN.out]
    clear c0 c1 c2 c3 c4 c5
    have E2 := Lib.hid (E1.out.trans e2)
    obtain ⟨c0, c1, c2, c3, c4, c5⟩ := HB.out w2 (B1.out.trans e2)
    have B2 := Lib.hid (B1.out.trans e2)
    clear e2
    go_wp2_with fail
    go_ret
    exact ⟨rfl, E2.out⟩
   have z1 : decide ((0 : Int) < (nl : Int)) = false := decide_eq_false (by omega)
   have z4 : decide (0 < nl) = false := decide_eq_false (by omega)
   have FQ := Lib.hid hq
   have HF1 : Hid (rkidsP 17 0 kids = true) := Lib.hid (by rw [← hq]; exact HF0.out)
   clear hq
   have HR2 : Hid ((names.all (fun x => nameP x.data.toList) && rmayL kids) = r) := Lib.hid (by rw [← HR.out]; simp [rnodeP, hasName, HNL.out, HF0.out, FN.out, FT.out, FQ.out, HF1.out])
   clear HR
   go_enter Tryz.func44, Tryz.ntmps44
   go_wp2_with fail
   refine (HKD.out _ HE.out).mono ?_
   rintro e w1 ⟨rfl, e1⟩
   have E1 := Lib.hid (HE.out.trans e1)
   obtain ⟨c0, c1, c2, c3, c4, c5⟩ := HB.out w1 e1
   have B1 := Lib.hid e1
   clear e1 HKD
   go_wp2_with fail
   refine (rname_any w1 a).mono ?_
   rintro e w2 ⟨rfl, e2⟩
   rw [FN.out]
   clear c0 c1 c2 c3 c4 c5
   have E2 := Lib.hid (E1.out.trans e2)
   obtain ⟨c0, c1, c2, c3, c4, c5⟩ := HB.out w2 (B1.out.trans e2)
   have B2 := Lib.hid (B1.out.trans e2)
   clear e2
   go_wp2_with fail
   clear c0 c1 c2 c3 c4 c5
   go_loopw [5] (fun v wr => ∃ j : Nat, j ≤ nl ∧ v = .int .i64 j ∧ Hid (((names.drop j).all (fun x => nameP x.data.toList) && rmayL kids) = r) ∧ Hid (Ext (w.alloc (.cells #[.int .i64 17, .string a, .string eB, .int .i64 0, .slice qn nl cn, .slice ql kl cl] 28)) wr)) (fun v _ => nl - (intOf v).toNat)
   case atStart => exact ⟨0, Nat.zero_le _, rfl, HR2, B2⟩
   case round =>
    obtain ⟨j, hj, rfl, HA, HX⟩ := hrel
    obtain ⟨c0, c1, c2, c3, c4, c5⟩ := HB.out wr HX.out
    by_cases hlt : j < nl
    ·have kl : j < names.length := by rw [HNL.out]; exact hlt
     obtain ⟨b, o, rfl, d0⟩ := ((by have := HN0.out; exact this : TxtsAt ok w (.slice qn nl cn) names).ext (HE.out.trans HX.out)).elem kl
     have hA := HA.out
     rw [all_drop' _ names j kl] at hA
     obtain ⟨y, hy⟩ : ∃ y, names[j] = y := ⟨_, rfl⟩
     rw [hy] at d0 hA
     have k0 : (0 : Int) ≤ (j : Int) := by omega
     have k1 : (j : Int) < (nl : Int) := by omega
     have k2 : decide ((j : Int) < (nl : Int)) = true := decide_eq_true k1
     have k3 : decide (j < nl) = true := decide_eq_true hlt
     have HA2 := Lib.hid hA
     clear hy kl hA
     go_wp2_with fail
     refine (rname_any wr y).mono ?_
     rintro e w3 ⟨rfl, e3⟩
     have HX3 := Lib.hid (HX.out.trans e3)
     clear e3 c0 c1 c2 c3 c4 c5
     cases hb : nameP y.data.toList with
     | false =>
      have hrr : r = false := by rw [← HA2.out, hb]; rfl
      subst hrr
      clear hb
      go_wp2_with fail
      go_ret
      exact ⟨rfl, HE.out.trans HX3.out⟩
     | true =>
      have HA3 : Hid (((names.drop (j + 1)).all (fun x => nameP x.data.toList) && rmayL kids) = r) := Lib.hid (by rw [← HA2.out, hb]; rfl)
      clear hb
      go_wp2_with fail
      go_roundw
      case rel => exact ⟨j + 1, hlt, by go_num, HA3, HX3⟩
      case measure => simp [intOf]; omega
    ·obtain rfl : nl = j := by omega
     have k2 : decide ((nl : Int) < (nl : Int)) = false := decide_eq_false (by omega)
     have HA2 : Hid (rmayL kids = r) := Lib.hid (by
      have h1 := HA.out
      rw [List.drop_eq_nil_of_le (by rw [HNL.out]; exact Nat.le_refl _)] at h1
      exact h1)
     go_wp2_with fail
     clear c0 c1 c2 c3 c4 c5 k2
     go_loopw [6] (fun v wr2 => ∃ i : Nat, i ≤ kl ∧ v = .int .i64 i ∧ Hid (rmayL (kids.drop i) = r) ∧ Hid (Ext (w.alloc (.cells #[.int .i64 17, .string a, .string eB, .int .i64 0, .slice qn nl cn, .slice ql kl cl] 28)) wr2)) (fun v _ => kl - (intOf v).toNat)
     case atStart => exact ⟨0, Nat.zero_le _, rfl, HA2, HX⟩
     case round =>
      obtain ⟨i, hi, rfl, HC, HX2⟩ := hrel
      obtain ⟨c0, c1, c2, c3, c4, c5⟩ := HB.out _ HX2.out
      by_cases hlt2 : i < kl
      ·have kl' : i < kids.length := by rw [HKL.out]; exact hlt2
       obtain ⟨b, o, qn', cn', ql', cl', rfl, d0, d1, d2, d3, d4, d5, hnd⟩ := ((by have := HK0.out; rw [← HKL.out] at this; exact this : KidsAt ok w d (.slice ql kids.length cl) kids).ext (HE.out.trans HX2.out)).node kl'
       have hcc := HSUB.out kids[i] (List.getElem_mem kl') _ _ (HE.out.trans HX2.out) hnd
       have hd2 := rmayL_drop kids i kl'
       rw [HC.out] at hd2
       obtain ⟨y, hy⟩ : ∃ y, kids[i] = y := ⟨_, rfl⟩
       rw [hy] at d0 d1 d2 d3 d4 d5 hd2 hcc
       generalize y.names.length = yn at *
       generalize y.kids.length = yk at *
       have k0 : (0 : Int) ≤ (i : Int) := by omega
       have k1 : (i : Int) < (kl : Int) := by omega
       have k2 : decide ((i : Int) < (kl : Int)) = true := decide_eq_true k1
       have k3 : decide (i < kl) = true := decide_eq_true hlt2
       have HD := Lib.hid hd2
       have HCC := Lib.hid hcc
       clear hnd hy kl' hd2 hcc
       go_wp2_with fail
       refine HCC.out.mono ?_
       rintro e w3 ⟨rfl, e3⟩
       have HX3 := Lib.hid (HX2.out.trans e3)
       clear e3 HCC c0 c1 c2 c3 c4 c5 d0 d1 d2 d3 d4 d5
       cases hb : rmayN y with
       | false =>
        have hrr : r = false := by rw [HD.out, hb]; rfl
        subst hrr
        clear hb
        go_wp2_with fail
        go_ret
        exact ⟨rfl, HE.out.trans HX3.out⟩
       | true =>
        have HD2 : Hid (rmayL (kids.drop (i + 1)) = r) := Lib.hid (by rw [HD.out, hb]; rfl)
        clear hb
        go_wp2_with fail
        go_roundw
        case rel => exact ⟨i + 1, hlt2, by go_num, HD2, HX3⟩
        case measure => simp [intOf]; omega
      ·obtain rfl : kl = i := by omega
       have hrr : r = true := by
        rw [← HC.out, List.drop_eq_nil_of_le (by rw [HKL.out]; exact Nat.le_refl _)]; rfl
       subst hrr
       have k2 : decide ((kl : Int) < (kl : Int)) = false := decide_eq_false (by omega)
       go_wp2_with fail
       go_ret
       exact ⟨rfl, HE.out.trans HX2.out⟩
theorem rmay_21 (w : World) (ok : Nat → Prop) (d : Nat) (n : Int) (a t : ByteArray) (names : List ByteArray) (kids : List Nd) (qn : Option Addr) (cn : Nat) (ql : Option Addr) (cl : Nat) (hn : TxtsAt ok w (.slice qn names.length cn) names) (hkd : KidsAt ok w d (.slice ql kids.length cl) kids) (hnm : names.length ≤ 140737488355328) (hkm : kids.length ≤ 140737488355328) (hs : ∀ x ∈ kids, In64 x.k)
  (hsub : SubN w ok d kids fun y v W => Calls Tryz.prog 44 #[v] W fun e w' => e = .returned (.bool (rmayN y)) ∧ Ext W w') :
  Calls Tryz.prog 44 #[.agg #[.int .i64 21, .string a, .string t, .int .i64 n, .slice qn names.length cn, .slice ql kids.length cl]] w fun e w' => e = .returned (.bool (rnodeP 21 a t n names kids && rmayL kids)) ∧ Ext w w' := by
 have HKD := Lib.hid (fun W (e : Ext w W) => rkids_all W ok d 21 a t n qn names.length cn ql cl kids (hkd.ext e) hkm hs (by decide))
 have HSUB := Lib.hid hsub
 obtain ⟨r, hr⟩ : ∃ r, (rnodeP 21 a t n names kids && rmayL kids) = r := ⟨_, rfl⟩
 rw [hr]
 have HR := Lib.hid hr
 obtain ⟨nl, hnl⟩ : ∃ n, names.length = n := ⟨_, rfl⟩
 obtain ⟨kl, hkl⟩ : ∃ n, kids.length = n := ⟨_, rfl⟩
 have HNL := Lib.hid hnl
 have HKL := Lib.hid hkl
 rw [hnl] at hnm HKD hn
 rw [hkl] at hkm HKD hkd
 rw [hnl, hkl]
 have HN0 := Lib.hid hn
 have HK0 := Lib.hid hkd
 have HE := Lib.hid ((Ext.refl w).alloc (.cells #[.int .i64 21, .string a, .string t, .int .i64 n, .slice qn nl cn, .slice ql kl cl] 28))
 have HB := Lib.hid (fun W => nd_box (w := w) (W := W) (x := .mk 21 a t n names kids) (nv := .slice qn nl cn) (lv := .slice ql kl cl))
 simp only [Nd.k, Nd.name, Nd.text, Nd.n] at HB
 clear hn hkd hsub hs hr hnl hkl
 cases F0 : rkidsP 21 nl kids with
 | false =>
  rw [F0] at HKD
  have hrr : r = false := by rw [← HR.out]; simp [rnodeP, hasName, HNL.out, F0]
  subst hrr
  clear F0 HR
  go_enter Tryz.func44, Tryz.ntmps44
  go_wp2_with fail
  refine (HKD.out _ HE.out).mono ?_
  rintro e w1 ⟨rfl, e1⟩
  have E1 := Lib.hid (HE.out.trans e1)
  obtain ⟨c0, c1, c2, c3, c4, c5⟩ := HB.out w1 e1
  have B1 := Lib.hid e1
  clear e1 HKD
  go_wp2_with fail
  go_ret
  exact ⟨rfl, E1.out⟩
 | true =>
  rw [F0] at HKD
  have HF0 := Lib.hid F0
  clear F0
  obtain ⟨lv, hlv⟩ : ∃ lv, rlevP a.data.toList = lv := ⟨_, rfl⟩
  have FLV := Lib.hid hlv
  have hlo := rlevP_oper a.data.toList
  rw [hlv] at hlo
  clear hlv
  cases F1 : operB a.data.toList with
  | false =>
   rw [F1] at hlo
   have hrr : r = false := by rw [← HR.out]; simp [rnodeP, hasName, HNL.out, HF0.out, F1]
   subst hrr
   simp only [Bool.not_false] at hlo
   clear F1 HR
   go_enter Tryz.func44, Tryz.ntmps44
   go_wp2_with fail
   refine (HKD.out _ HE.out).mono ?_
   rintro e w1 ⟨rfl, e1⟩
   have E1 := Lib.hid (HE.out.trans e1)
   obtain ⟨c0, c1, c2, c3, c4, c5⟩ := HB.out w1 e1
   have B1 := Lib.hid e1
   clear e1 HKD
   go_wp2_with fail
   refine (rlevel_any w1 a).mono ?_
   rintro e w2 ⟨rfl, rfl⟩
   rw [show rlevP a.data.toList = lv from FLV.out]
   have E2 := E1
   have B2 := B1
   go_wp2_with fail
   go_ret
   exact ⟨rfl, E2.out⟩
  | true =>
   rw [F1] at hlo
   simp only [Bool.not_true] at hlo
   have FN := Lib.hid F1
   clear F1
   by_cases ht : t = eB
   rotate_left
   ·obtain ⟨y1, y2, y3, y4⟩ := ne_empty ht
    have hrr : r = false := by rw [← HR.out]; simp [rnodeP, hasName, HNL.out, HF0.out, FN.out, y4]
    subst hrr
    clear y4 HR ht
    go_enter Tryz.func44, Tryz.ntmps44
    go_wp2_with fail
    refine (HKD.out _ HE.out).mono ?_
    rintro e w1 ⟨rfl, e1⟩
    have E1 := Lib.hid (HE.out.trans e1)
    obtain ⟨c0, c1, c2, c3, c4, c5⟩ := HB.out w1 e1
    have B1 := Lib.hid e1
    clear e1 HKD
    go_wp2_with fail
    refine (rlevel_any w1 a).mono ?_
    rintro e w2 ⟨rfl, rfl⟩
    rw [show rlevP a.data.toList = lv from FLV.out]
    have E2 := E1
    have B2 := B1
    go_wp2_with fail
    go_ret
    exact ⟨rfl, E2.out⟩
   subst ht
   have y5 : (eB == eB) = true := (ba_iff _ _).2 rfl
   have FT := Lib.hid y5
   clear y5
   by_cases hz : n = 0
   rotate_left
   ·have y1 : (n != 0) = true := bne_iff_ne.2 hz
    have y2 : (n == 0) = false := beq_eq_false_iff_ne.2 hz
    have hrr : r = false := by rw [← HR.out]; simp [rnodeP, hasName, HNL.out, HF0.out, FN.out, FT.out, hz]
    subst hrr
    clear hz HR
    go_enter Tryz.func44, Tryz.ntmps44
    go_wp2_with fail
    refine (HKD.out _ HE.out).mono ?_
    rintro e w1 ⟨rfl, e1⟩
    have E1 := Lib.hid (HE.out.trans e1)
    obtain ⟨c0, c1, c2, c3, c4, c5⟩ := HB.out w1 e1
    have B1 := Lib.hid e1
    clear e1 HKD
    go_wp2_with fail
    refine (rlevel_any w1 a).mono ?_
    rintro e w2 ⟨rfl, rfl⟩
    rw [show rlevP a.data.toList = lv from FLV.out]
    have E2 := E1
    have B2 := B1
    go_wp2_with fail
    go_ret
    exact ⟨rfl, E2.out⟩
   subst hz
   by_cases hq : nl = 0
   rotate_left
   ·have z1 : decide ((0 : Int) < (nl : Int)) = true := decide_eq_true (by omega)
    have z4 : decide (0 < nl) = true := decide_eq_true (by omega)
    have z3 : names.length = 0 → False := fun e => hq (HNL.out.symm.trans e)
    have z5 : (names == []) = false := by
     cases names with
     | nil => exact absurd rfl z3
     | cons _ _ => rfl
    have z6 : ¬ names = [] := fun e => z3 (by rw [e]; rfl)
    have hrr : r = false := by rw [← HR.out]; simp [rnodeP, hasName, HNL.out, HF0.out, FN.out, FT.out, hq]
    subst hrr
    clear hq HR z3 z5 z6
    go_enter Tryz.func44, Tryz.ntmps44
    go_wp2_with fail
    refine (HKD.out _ HE.out).mono ?_
    rintro e w1 ⟨rfl, e1⟩
    have E1 := Lib.hid (HE.out.trans e1)
    obtain ⟨c0, c1, c2, c3, c4, c5⟩ := HB.out w1 e1
    have B1 := Lib.hid e1
    clear e1 HKD
    go_wp2_with fail
    refine (rlevel_any w1 a).mono ?_
    rintro e w2 ⟨rfl, rfl⟩
    rw [show rlevP a.data.toList = lv from FLV.out]
    have E2 := E1
    have B2 := B1
    go_wp2_with fail
    go_ret
    exact ⟨rfl, E2.out⟩
   have z1 : decide ((0 : Int) < (nl : Int)) = false := decide_eq_false (by omega)
   have z4 : decide (0 < nl) = false := decide_eq_false (by omega)
   have FQ := Lib.hid hq
   have HF1 : Hid (rkidsP 21 0 kids = true) := Lib.hid (by rw [← hq]; exact HF0.out)
   clear hq
   have HR2 : Hid ((names.all (fun x => nameP x.data.toList) && rmayL kids) = r) := Lib.hid (by rw [← HR.out]; simp [rnodeP, hasName, HNL.out, HF0.out, FN.out, FT.out, FQ.out, HF1.out])
   clear HR
   go_enter Tryz.func44, Tryz.ntmps44
   go_wp2_with fail
   refine (HKD.out _ HE.out).mono ?_
   rintro e w1 ⟨rfl, e1⟩
   have E1 := Lib.hid (HE.out.trans e1)
   obtain ⟨c0, c1, c2, c3, c4, c5⟩ := HB.out w1 e1
   have B1 := Lib.hid e1
   clear e1 HKD
   go_wp2_with fail
   refine (rlevel_any w1 a).mono ?_
   rintro e w2 ⟨rfl, rfl⟩
   rw [show rlevP a.data.toList = lv from FLV.out]
   have E2 := E1
   have B2 := B1
   go_wp2_with fail
   clear c0 c1 c2 c3 c4 c5
   go_loopw [5] (fun v wr => ∃ j : Nat, j ≤ nl ∧ v = .int .i64 j ∧ Hid (((names.drop j).all (fun x => nameP x.data.toList) && rmayL kids) = r) ∧ Hid (Ext (w.alloc (.cells #[.int .i64 21, .string a, .string eB, .int .i64 0, .slice qn nl cn, .slice ql kl cl] 28)) wr)) (fun v _ => nl - (intOf v).toNat)
   case atStart => exact ⟨0, Nat.zero_le _, rfl, HR2, B2⟩
   case round =>
    obtain ⟨j, hj, rfl, HA, HX⟩ := hrel
    obtain ⟨c0, c1, c2, c3, c4, c5⟩ := HB.out wr HX.out
    by_cases hlt : j < nl
    ·have kl : j < names.length := by rw [HNL.out]; exact hlt
     obtain ⟨b, o, rfl, d0⟩ := ((by have := HN0.out; exact this : TxtsAt ok w (.slice qn nl cn) names).ext (HE.out.trans HX.out)).elem kl
     have hA := HA.out
     rw [all_drop' _ names j kl] at hA
     obtain ⟨y, hy⟩ : ∃ y, names[j] = y := ⟨_, rfl⟩
     rw [hy] at d0 hA
     have k0 : (0 : Int) ≤ (j : Int) := by omega
     have k1 : (j : Int) < (nl : Int) := by omega
     have k2 : decide ((j : Int) < (nl : Int)) = true := decide_eq_true k1
     have k3 : decide (j < nl) = true := decide_eq_true hlt
     have HA2 := Lib.hid hA
     clear hy kl hA
     go_wp2_with fail
     refine (rname_any wr y).mono ?_
     rintro e w3 ⟨rfl, e3⟩
     have HX3 := Lib.hid (HX.out.trans e3)
     clear e3 c0 c1 c2 c3 c4 c5
     cases hb : nameP y.data.toList with
     | false =>
      have hrr : r = false := by rw [← HA2.out, hb]; rfl
      subst hrr
      clear hb
      go_wp2_with fail
      go_ret
      exact ⟨rfl, HE.out.trans HX3.out⟩
     | true =>
      have HA3 : Hid (((names.drop (j + 1)).all (fun x => nameP x.data.toList) && rmayL kids) = r) := Lib.hid (by rw [← HA2.out, hb]; rfl)
      clear hb
      go_wp2_with fail
      go_roundw
      case rel => exact ⟨j + 1, hlt, by go_num, HA3, HX3⟩
      case measure => simp [intOf]; omega
    ·obtain rfl : nl = j := by omega
     have k2 : decide ((nl : Int) < (nl : Int)) = false := decide_eq_false (by omega)
     have HA2 : Hid (rmayL kids = r) := Lib.hid (by
      have h1 := HA.out
      rw [List.drop_eq_nil_of_le (by rw [HNL.out]; exact Nat.le_refl _)] at h1
      exact h1)
     go_wp2_with fail
     clear c0 c1 c2 c3 c4 c5 k2
     go_loopw [6] (fun v wr2 => ∃ i : Nat, i ≤ kl ∧ v = .int .i64 i ∧ Hid (rmayL (kids.drop i) = r) ∧ Hid (Ext (w.alloc (.cells #[.int .i64 21, .string a, .string eB, .int .i64 0, .slice qn nl cn, .slice ql kl cl] 28)) wr2)) (fun v _ => kl - (intOf v).toNat)
     case atStart => exact ⟨0, Nat.zero_le _, rfl, HA2, HX⟩
     case round =>
      obtain ⟨i, hi, rfl, HC, HX2⟩ := hrel
      obtain ⟨c0, c1, c2, c3, c4, c5⟩ := HB.out _ HX2.out
      by_cases hlt2 : i < kl
      ·have kl' : i < kids.length := by rw [HKL.out]; exact hlt2
       obtain ⟨b, o, qn', cn', ql', cl', rfl, d0, d1, d2, d3, d4, d5, hnd⟩ := ((by have := HK0.out; rw [← HKL.out] at this; exact this : KidsAt ok w d (.slice ql kids.length cl) kids).ext (HE.out.trans HX2.out)).node kl'
       have hcc := HSUB.out kids[i] (List.getElem_mem kl') _ _ (HE.out.trans HX2.out) hnd
       have hd2 := rmayL_drop kids i kl'
       rw [HC.out] at hd2
       obtain ⟨y, hy⟩ : ∃ y, kids[i] = y := ⟨_, rfl⟩
       rw [hy] at d0 d1 d2 d3 d4 d5 hd2 hcc
       generalize y.names.length = yn at *
       generalize y.kids.length = yk at *
       have k0 : (0 : Int) ≤ (i : Int) := by omega
       have k1 : (i : Int) < (kl : Int) := by omega
       have k2 : decide ((i : Int) < (kl : Int)) = true := decide_eq_true k1
       have k3 : decide (i < kl) = true := decide_eq_true hlt2
       have HD := Lib.hid hd2
       have HCC := Lib.hid hcc
       clear hnd hy kl' hd2 hcc
       go_wp2_with fail
       refine HCC.out.mono ?_
       rintro e w3 ⟨rfl, e3⟩
       have HX3 := Lib.hid (HX2.out.trans e3)
       clear e3 HCC c0 c1 c2 c3 c4 c5 d0 d1 d2 d3 d4 d5
       cases hb : rmayN y with
       | false =>
        have hrr : r = false := by rw [HD.out, hb]; rfl
        subst hrr
        clear hb
        go_wp2_with fail
        go_ret
        exact ⟨rfl, HE.out.trans HX3.out⟩
       | true =>
        have HD2 : Hid (rmayL (kids.drop (i + 1)) = r) := Lib.hid (by rw [HD.out, hb]; rfl)
        clear hb
        go_wp2_with fail
        go_roundw
        case rel => exact ⟨i + 1, hlt2, by go_num, HD2, HX3⟩
        case measure => simp [intOf]; omega
      ·obtain rfl : kl = i := by omega
       have hrr : r = true := by
        rw [← HC.out, List.drop_eq_nil_of_le (by rw [HKL.out]; exact Nat.le_refl _)]; rfl
       subst hrr
       have k2 : decide ((kl : Int) < (kl : Int)) = false := decide_eq_false (by omega)
       go_wp2_with fail
       go_ret
       exact ⟨rfl, HE.out.trans HX2.out⟩
theorem rmay_14 (w : World) (ok : Nat → Prop) (d : Nat) (n : Int) (a t : ByteArray) (names : List ByteArray) (kids : List Nd) (qn : Option Addr) (cn : Nat) (ql : Option Addr) (cl : Nat) (hn : TxtsAt ok w (.slice qn names.length cn) names) (hkd : KidsAt ok w d (.slice ql kids.length cl) kids) (hnm : names.length ≤ 140737488355328) (hkm : kids.length ≤ 140737488355328) (hs : ∀ x ∈ kids, In64 x.k)
  (hsub : SubN w ok d kids fun y v W => Calls Tryz.prog 44 #[v] W fun e w' => e = .returned (.bool (rmayN y)) ∧ Ext W w') :
  Calls Tryz.prog 44 #[.agg #[.int .i64 14, .string a, .string t, .int .i64 n, .slice qn names.length cn, .slice ql kids.length cl]] w fun e w' => e = .returned (.bool (rnodeP 14 a t n names kids && rmayL kids)) ∧ Ext w w' := by
 have HKD := Lib.hid (fun W (e : Ext w W) => rkids_all W ok d 14 a t n qn names.length cn ql cl kids (hkd.ext e) hkm hs (by decide))
 have HSUB := Lib.hid hsub
 obtain ⟨r, hr⟩ : ∃ r, (rnodeP 14 a t n names kids && rmayL kids) = r := ⟨_, rfl⟩
 rw [hr]
 have HR := Lib.hid hr
 obtain ⟨nl, hnl⟩ : ∃ n, names.length = n := ⟨_, rfl⟩
 obtain ⟨kl, hkl⟩ : ∃ n, kids.length = n := ⟨_, rfl⟩
 have HNL := Lib.hid hnl
 have HKL := Lib.hid hkl
 rw [hnl] at hnm HKD hn
 rw [hkl] at hkm HKD hkd
 rw [hnl, hkl]
 have HN0 := Lib.hid hn
 have HK0 := Lib.hid hkd
 have HE := Lib.hid ((Ext.refl w).alloc (.cells #[.int .i64 14, .string a, .string t, .int .i64 n, .slice qn nl cn, .slice ql kl cl] 28))
 have HB := Lib.hid (fun W => nd_box (w := w) (W := W) (x := .mk 14 a t n names kids) (nv := .slice qn nl cn) (lv := .slice ql kl cl))
 simp only [Nd.k, Nd.name, Nd.text, Nd.n] at HB
 clear hn hkd hsub hs hr hnl hkl
 cases F0 : rkidsP 14 nl kids with
 | false =>
  rw [F0] at HKD
  have hrr : r = false := by rw [← HR.out]; simp [rnodeP, hasName, HNL.out, F0]
  subst hrr
  clear F0 HR
  go_enter Tryz.func44, Tryz.ntmps44
  go_wp2_with fail
  refine (HKD.out _ HE.out).mono ?_
  rintro e w1 ⟨rfl, e1⟩
  have E1 := Lib.hid (HE.out.trans e1)
  obtain ⟨c0, c1, c2, c3, c4, c5⟩ := HB.out w1 e1
  have B1 := Lib.hid e1
  clear e1 HKD
  go_wp2_with fail
  go_ret
  exact ⟨rfl, E1.out⟩
 | true =>
  rw [F0] at HKD
  have HF0 := Lib.hid F0
  clear F0
  by_cases ha : a = eB
  rotate_left
  ·obtain ⟨y1, y2, y3, y4⟩ := ne_empty ha
   have hrr : r = false := by rw [← HR.out]; simp [rnodeP, hasName, HNL.out, HF0.out, y4]
   subst hrr
   clear y4 HR ha
   go_enter Tryz.func44, Tryz.ntmps44
   go_wp2_with fail
   refine (HKD.out _ HE.out).mono ?_
   rintro e w1 ⟨rfl, e1⟩
   have E1 := Lib.hid (HE.out.trans e1)
   obtain ⟨c0, c1, c2, c3, c4, c5⟩ := HB.out w1 e1
   have B1 := Lib.hid e1
   clear e1 HKD
   have E2 := E1
   have B2 := B1
   go_wp2_with fail
   go_ret
   exact ⟨rfl, E2.out⟩
  subst ha
  have y5 : (eB == eB) = true := (ba_iff _ _).2 rfl
  have FN := Lib.hid y5
  clear y5
  by_cases hz : n = 0
  rotate_left
  ·have y1 : (n != 0) = true := bne_iff_ne.2 hz
   have y2 : (n == 0) = false := beq_eq_false_iff_ne.2 hz
   have hrr : r = false := by rw [← HR.out]; simp [rnodeP, hasName, HNL.out, HF0.out, FN.out, hz]
   subst hrr
   clear hz HR
   go_enter Tryz.func44, Tryz.ntmps44
   go_wp2_with fail
   refine (HKD.out _ HE.out).mono ?_
   rintro e w1 ⟨rfl, e1⟩
   have E1 := Lib.hid (HE.out.trans e1)
   obtain ⟨c0, c1, c2, c3, c4, c5⟩ := HB.out w1 e1
   have B1 := Lib.hid e1
   clear e1 HKD
   have E2 := E1
   have B2 := B1
   go_wp2_with fail
   go_ret
   exact ⟨rfl, E2.out⟩
  subst hz
  by_cases hq : nl = 0
  rotate_left
  ·have z1 : decide ((0 : Int) < (nl : Int)) = true := decide_eq_true (by omega)
   have z4 : decide (0 < nl) = true := decide_eq_true (by omega)
   have z3 : names.length = 0 → False := fun e => hq (HNL.out.symm.trans e)
   have z5 : (names == []) = false := by
    cases names with
    | nil => exact absurd rfl z3
    | cons _ _ => rfl
   have z6 : ¬ names = [] := fun e => z3 (by rw [e]; rfl)
   have hrr : r = false := by rw [← HR.out]; simp [rnodeP, hasName, HNL.out, HF0.out, FN.out, hq]
   subst hrr
   clear hq HR z3 z5 z6
   go_enter Tryz.func44, Tryz.ntmps44
   go_wp2_with fail
   refine (HKD.out _ HE.out).mono ?_
   rintro e w1 ⟨rfl, e1⟩
   have E1 := Lib.hid (HE.out.trans e1)
   obtain ⟨c0, c1, c2, c3, c4, c5⟩ := HB.out w1 e1
   have B1 := Lib.hid e1
   clear e1 HKD
   have E2 := E1
   have B2 := B1
   go_wp2_with fail
   go_ret
   exact ⟨rfl, E2.out⟩
  have z1 : decide ((0 : Int) < (nl : Int)) = false := decide_eq_false (by omega)
  have z4 : decide (0 < nl) = false := decide_eq_false (by omega)
  have FQ := Lib.hid hq
  have HF1 : Hid (rkidsP 14 0 kids = true) := Lib.hid (by rw [← hq]; exact HF0.out)
  clear hq
  have HR2 : Hid ((names.all (fun x => nameP x.data.toList) && rmayL kids) = r) := Lib.hid (by rw [← HR.out]; simp [rnodeP, hasName, HNL.out, HF0.out, FN.out, FQ.out, HF1.out])
  clear HR
  go_enter Tryz.func44, Tryz.ntmps44
  go_wp2_with fail
  refine (HKD.out _ HE.out).mono ?_
  rintro e w1 ⟨rfl, e1⟩
  have E1 := Lib.hid (HE.out.trans e1)
  obtain ⟨c0, c1, c2, c3, c4, c5⟩ := HB.out w1 e1
  have B1 := Lib.hid e1
  clear e1 HKD
  have E2 := E1
  have B2 := B1
  go_wp2_with fail
  clear c0 c1 c2 c3 c4 c5
  go_loopw [5] (fun v wr => ∃ j : Nat, j ≤ nl ∧ v = .int .i64 j ∧ Hid (((names.drop j).all (fun x => nameP x.data.toList) && rmayL kids) = r) ∧ Hid (Ext (w.alloc (.cells #[.int .i64 14, .string eB, .string t, .int .i64 0, .slice qn nl cn, .slice ql kl cl] 28)) wr)) (fun v _ => nl - (intOf v).toNat)
  case atStart => exact ⟨0, Nat.zero_le _, rfl, HR2, B2⟩
  case round =>
   obtain ⟨j, hj, rfl, HA, HX⟩ := hrel
   obtain ⟨c0, c1, c2, c3, c4, c5⟩ := HB.out wr HX.out
   by_cases hlt : j < nl
   ·have kl : j < names.length := by rw [HNL.out]; exact hlt
    obtain ⟨b, o, rfl, d0⟩ := ((by have := HN0.out; exact this : TxtsAt ok w (.slice qn nl cn) names).ext (HE.out.trans HX.out)).elem kl
    have hA := HA.out
    rw [all_drop' _ names j kl] at hA
    obtain ⟨y, hy⟩ : ∃ y, names[j] = y := ⟨_, rfl⟩
    rw [hy] at d0 hA
    have k0 : (0 : Int) ≤ (j : Int) := by omega
    have k1 : (j : Int) < (nl : Int) := by omega
    have k2 : decide ((j : Int) < (nl : Int)) = true := decide_eq_true k1
    have k3 : decide (j < nl) = true := decide_eq_true hlt
    have HA2 := Lib.hid hA
    clear hy kl hA
    go_wp2_with fail
    refine (rname_any wr y).mono ?_
    rintro e w3 ⟨rfl, e3⟩
    have HX3 := Lib.hid (HX.out.trans e3)
    clear e3 c0 c1 c2 c3 c4 c5
    cases hb : nameP y.data.toList with
    | false =>
     have hrr : r = false := by rw [← HA2.out, hb]; rfl
     subst hrr
     clear hb
     go_wp2_with fail
     go_ret
     exact ⟨rfl, HE.out.trans HX3.out⟩
    | true =>
     have HA3 : Hid (((names.drop (j + 1)).all (fun x => nameP x.data.toList) && rmayL kids) = r) := Lib.hid (by rw [← HA2.out, hb]; rfl)
     clear hb
     go_wp2_with fail
     go_roundw
     case rel => exact ⟨j + 1, hlt, by go_num, HA3, HX3⟩
     case measure => simp [intOf]; omega
   ·obtain rfl : nl = j := by omega
    have k2 : decide ((nl : Int) < (nl : Int)) = false := decide_eq_false (by omega)
    have HA2 : Hid (rmayL kids = r) := Lib.hid (by
     have h1 := HA.out
     rw [List.drop_eq_nil_of_le (by rw [HNL.out]; exact Nat.le_refl _)] at h1
     exact h1)
    go_wp2_with fail
    clear c0 c1 c2 c3 c4 c5 k2
    go_loopw [6] (fun v wr2 => ∃ i : Nat, i ≤ kl ∧ v = .int .i64 i ∧ Hid (rmayL (kids.drop i) = r) ∧ Hid (Ext (w.alloc (.cells #[.int .i64 14, .string eB, .string t, .int .i64 0, .slice qn nl cn, .slice ql kl cl] 28)) wr2)) (fun v _ => kl - (intOf v).toNat)
    case atStart => exact ⟨0, Nat.zero_le _, rfl, HA2, HX⟩
    case round =>
     obtain ⟨i, hi, rfl, HC, HX2⟩ := hrel
     obtain ⟨c0, c1, c2, c3, c4, c5⟩ := HB.out _ HX2.out
     by_cases hlt2 : i < kl
     ·have kl' : i < kids.length := by rw [HKL.out]; exact hlt2
      obtain ⟨b, o, qn', cn', ql', cl', rfl, d0, d1, d2, d3, d4, d5, hnd⟩ := ((by have := HK0.out; rw [← HKL.out] at this; exact this : KidsAt ok w d (.slice ql kids.length cl) kids).ext (HE.out.trans HX2.out)).node kl'
      have hcc := HSUB.out kids[i] (List.getElem_mem kl') _ _ (HE.out.trans HX2.out) hnd
      have hd2 := rmayL_drop kids i kl'
      rw [HC.out] at hd2
      obtain ⟨y, hy⟩ : ∃ y, kids[i] = y := ⟨_, rfl⟩
      rw [hy] at d0 d1 d2 d3 d4 d5 hd2 hcc
      generalize y.names.length = yn at *
      generalize y.kids.length = yk at *
      have k0 : (0 : Int) ≤ (i : Int) := by omega
      have k1 : (i : Int) < (kl : Int) := by omega
      have k2 : decide ((i : Int) < (kl : Int)) = true := decide_eq_true k1
      have k3 : decide (i < kl) = true := decide_eq_true hlt2
      have HD := Lib.hid hd2
      have HCC := Lib.hid hcc
      clear hnd hy kl' hd2 hcc
      go_wp2_with fail
      refine HCC.out.mono ?_
      rintro e w3 ⟨rfl, e3⟩
      have HX3 := Lib.hid (HX2.out.trans e3)
      clear e3 HCC c0 c1 c2 c3 c4 c5 d0 d1 d2 d3 d4 d5
      cases hb : rmayN y with
      | false =>
       have hrr : r = false := by rw [HD.out, hb]; rfl
       subst hrr
       clear hb
       go_wp2_with fail
       go_ret
       exact ⟨rfl, HE.out.trans HX3.out⟩
      | true =>
       have HD2 : Hid (rmayL (kids.drop (i + 1)) = r) := Lib.hid (by rw [HD.out, hb]; rfl)
       clear hb
       go_wp2_with fail
       go_roundw
       case rel => exact ⟨i + 1, hlt2, by go_num, HD2, HX3⟩
       case measure => simp [intOf]; omega
     ·obtain rfl : kl = i := by omega
      have hrr : r = true := by
       rw [← HC.out, List.drop_eq_nil_of_le (by rw [HKL.out]; exact Nat.le_refl _)]; rfl
      subst hrr
      have k2 : decide ((kl : Int) < (kl : Int)) = false := decide_eq_false (by omega)
      go_wp2_with fail
      go_ret
      exact ⟨rfl, HE.out.trans HX2.out⟩
theorem rmay_13 (w : World) (ok : Nat → Prop) (d : Nat) (n : Int) (a t : ByteArray) (names : List ByteArray) (kids : List Nd) (qn : Option Addr) (cn : Nat) (ql : Option Addr) (cl : Nat) (hn : TxtsAt ok w (.slice qn names.length cn) names) (hkd : KidsAt ok w d (.slice ql kids.length cl) kids) (hnm : names.length ≤ 140737488355328) (hkm : kids.length ≤ 140737488355328) (hs : ∀ x ∈ kids, In64 x.k)
  (hsub : SubN w ok d kids fun y v W => Calls Tryz.prog 44 #[v] W fun e w' => e = .returned (.bool (rmayN y)) ∧ Ext W w') :
  Calls Tryz.prog 44 #[.agg #[.int .i64 13, .string a, .string t, .int .i64 n, .slice qn names.length cn, .slice ql kids.length cl]] w fun e w' => e = .returned (.bool (rnodeP 13 a t n names kids && rmayL kids)) ∧ Ext w w' := by
 have HKD := Lib.hid (fun W (e : Ext w W) => rkids_all W ok d 13 a t n qn names.length cn ql cl kids (hkd.ext e) hkm hs (by decide))
 have HSUB := Lib.hid hsub
 obtain ⟨r, hr⟩ : ∃ r, (rnodeP 13 a t n names kids && rmayL kids) = r := ⟨_, rfl⟩
 rw [hr]
 have HR := Lib.hid hr
 obtain ⟨nl, hnl⟩ : ∃ n, names.length = n := ⟨_, rfl⟩
 obtain ⟨kl, hkl⟩ : ∃ n, kids.length = n := ⟨_, rfl⟩
 have HNL := Lib.hid hnl
 have HKL := Lib.hid hkl
 rw [hnl] at hnm HKD hn
 rw [hkl] at hkm HKD hkd
 rw [hnl, hkl]
 have HN0 := Lib.hid hn
 have HK0 := Lib.hid hkd
 have HE := Lib.hid ((Ext.refl w).alloc (.cells #[.int .i64 13, .string a, .string t, .int .i64 n, .slice qn nl cn, .slice ql kl cl] 28))
 have HB := Lib.hid (fun W => nd_box (w := w) (W := W) (x := .mk 13 a t n names kids) (nv := .slice qn nl cn) (lv := .slice ql kl cl))
 simp only [Nd.k, Nd.name, Nd.text, Nd.n] at HB
 clear hn hkd hsub hs hr hnl hkl
 cases F0 : rkidsP 13 nl kids with
 | false =>
  rw [F0] at HKD
  have hrr : r = false := by rw [← HR.out]; simp [rnodeP, hasName, HNL.out, F0]
  subst hrr
  clear F0 HR
  go_enter Tryz.func44, Tryz.ntmps44
  go_wp2_with fail
  refine (HKD.out _ HE.out).mono ?_
  rintro e w1 ⟨rfl, e1⟩
  have E1 := Lib.hid (HE.out.trans e1)
  obtain ⟨c0, c1, c2, c3, c4, c5⟩ := HB.out w1 e1
  have B1 := Lib.hid e1
  clear e1 HKD
  go_wp2_with fail
  go_ret
  exact ⟨rfl, E1.out⟩
 | true =>
  rw [F0] at HKD
  have HF0 := Lib.hid F0
  clear F0
  by_cases ha : a = eB
  rotate_left
  ·obtain ⟨y1, y2, y3, y4⟩ := ne_empty ha
   have hrr : r = false := by rw [← HR.out]; simp [rnodeP, hasName, HNL.out, HF0.out, y4]
   subst hrr
   clear y4 HR ha
   go_enter Tryz.func44, Tryz.ntmps44
   go_wp2_with fail
   refine (HKD.out _ HE.out).mono ?_
   rintro e w1 ⟨rfl, e1⟩
   have E1 := Lib.hid (HE.out.trans e1)
   obtain ⟨c0, c1, c2, c3, c4, c5⟩ := HB.out w1 e1
   have B1 := Lib.hid e1
   clear e1 HKD
   have E2 := E1
   have B2 := B1
   go_wp2_with fail
   go_ret
   exact ⟨rfl, E2.out⟩
  subst ha
  have y5 : (eB == eB) = true := (ba_iff _ _).2 rfl
  have FN := Lib.hid y5
  clear y5
  by_cases ht : t = eB
  rotate_left
  ·obtain ⟨y1, y2, y3, y4⟩ := ne_empty ht
   have hrr : r = false := by rw [← HR.out]; simp [rnodeP, hasName, HNL.out, HF0.out, FN.out, y4]
   subst hrr
   clear y4 HR ht
   go_enter Tryz.func44, Tryz.ntmps44
   go_wp2_with fail
   refine (HKD.out _ HE.out).mono ?_
   rintro e w1 ⟨rfl, e1⟩
   have E1 := Lib.hid (HE.out.trans e1)
   obtain ⟨c0, c1, c2, c3, c4, c5⟩ := HB.out w1 e1
   have B1 := Lib.hid e1
   clear e1 HKD
   have E2 := E1
   have B2 := B1
   go_wp2_with fail
   go_ret
   exact ⟨rfl, E2.out⟩
  subst ht
  have y5 : (eB == eB) = true := (ba_iff _ _).2 rfl
  have FT := Lib.hid y5
  clear y5
  by_cases hz : n < 0
  ·have y1 : decide (n < 0) = true := decide_eq_true hz
   have y2 : ¬ (0 ≤ n) := by omega
   have hrr : r = false := by rw [← HR.out]; simp [rnodeP, hasName, HNL.out, HF0.out, FN.out, FT.out, y2]
   subst hrr
   clear hz y2 HR
   go_enter Tryz.func44, Tryz.ntmps44
   go_wp2_with fail
   refine (HKD.out _ HE.out).mono ?_
   rintro e w1 ⟨rfl, e1⟩
   have E1 := Lib.hid (HE.out.trans e1)
   obtain ⟨c0, c1, c2, c3, c4, c5⟩ := HB.out w1 e1
   have B1 := Lib.hid e1
   clear e1 HKD
   have E2 := E1
   have B2 := B1
   go_wp2_with fail
   go_ret
   exact ⟨rfl, E2.out⟩
  have y1 : decide (n < 0) = false := decide_eq_false hz
  have y2 : 0 ≤ n := by omega
  have FZ := Lib.hid y2
  clear y2
  by_cases hq : nl = 0
  rotate_left
  ·have z1 : decide ((0 : Int) < (nl : Int)) = true := decide_eq_true (by omega)
   have z4 : decide (0 < nl) = true := decide_eq_true (by omega)
   have z3 : names.length = 0 → False := fun e => hq (HNL.out.symm.trans e)
   have z5 : (names == []) = false := by
    cases names with
    | nil => exact absurd rfl z3
    | cons _ _ => rfl
   have z6 : ¬ names = [] := fun e => z3 (by rw [e]; rfl)
   have hrr : r = false := by rw [← HR.out]; simp [rnodeP, hasName, HNL.out, HF0.out, FN.out, FT.out, FZ.out, hq]
   subst hrr
   clear hq HR z3 z5 z6
   go_enter Tryz.func44, Tryz.ntmps44
   go_wp2_with fail
   refine (HKD.out _ HE.out).mono ?_
   rintro e w1 ⟨rfl, e1⟩
   have E1 := Lib.hid (HE.out.trans e1)
   obtain ⟨c0, c1, c2, c3, c4, c5⟩ := HB.out w1 e1
   have B1 := Lib.hid e1
   clear e1 HKD
   have E2 := E1
   have B2 := B1
   go_wp2_with fail
   go_ret
   exact ⟨rfl, E2.out⟩
  have z1 : decide ((0 : Int) < (nl : Int)) = false := decide_eq_false (by omega)
  have z4 : decide (0 < nl) = false := decide_eq_false (by omega)
  have FQ := Lib.hid hq
  have HF1 : Hid (rkidsP 13 0 kids = true) := Lib.hid (by rw [← hq]; exact HF0.out)
  clear hq
  have HR2 : Hid ((names.all (fun x => nameP x.data.toList) && rmayL kids) = r) := Lib.hid (by rw [← HR.out]; simp [rnodeP, hasName, HNL.out, HF0.out, FN.out, FT.out, FZ.out, FQ.out, HF1.out])
  clear HR
  go_enter Tryz.func44, Tryz.ntmps44
  go_wp2_with fail
  refine (HKD.out _ HE.out).mono ?_
  rintro e w1 ⟨rfl, e1⟩
  have E1 := Lib.hid (HE.out.trans e1)
  obtain ⟨c0, c1, c2, c3, c4, c5⟩ := HB.out w1 e1
  have B1 := Lib.hid e1
  clear e1 HKD
  have E2 := E1
  have B2 := B1
  go_wp2_with fail
  clear c0 c1 c2 c3 c4 c5
  go_loopw [5] (fun v wr => ∃ j : Nat, j ≤ nl ∧ v = .int .i64 j ∧ Hid (((names.drop j).all (fun x => nameP x.data.toList) && rmayL kids) = r) ∧ Hid (Ext (w.alloc (.cells #[.int .i64 13, .string eB, .string eB, .int .i64 n, .slice qn nl cn, .slice ql kl cl] 28)) wr)) (fun v _ => nl - (intOf v).toNat)
  case atStart => exact ⟨0, Nat.zero_le _, rfl, HR2, B2⟩
  case round =>
   obtain ⟨j, hj, rfl, HA, HX⟩ := hrel
   obtain ⟨c0, c1, c2, c3, c4, c5⟩ := HB.out wr HX.out
   by_cases hlt : j < nl
   ·have kl : j < names.length := by rw [HNL.out]; exact hlt
    obtain ⟨b, o, rfl, d0⟩ := ((by have := HN0.out; exact this : TxtsAt ok w (.slice qn nl cn) names).ext (HE.out.trans HX.out)).elem kl
    have hA := HA.out
    rw [all_drop' _ names j kl] at hA
    obtain ⟨y, hy⟩ : ∃ y, names[j] = y := ⟨_, rfl⟩
    rw [hy] at d0 hA
    have k0 : (0 : Int) ≤ (j : Int) := by omega
    have k1 : (j : Int) < (nl : Int) := by omega
    have k2 : decide ((j : Int) < (nl : Int)) = true := decide_eq_true k1
    have k3 : decide (j < nl) = true := decide_eq_true hlt
    have HA2 := Lib.hid hA
    clear hy kl hA
    go_wp2_with fail
    refine (rname_any wr y).mono ?_
    rintro e w3 ⟨rfl, e3⟩
    have HX3 := Lib.hid (HX.out.trans e3)
    clear e3 c0 c1 c2 c3 c4 c5
    cases hb : nameP y.data.toList with
    | false =>
     have hrr : r = false := by rw [← HA2.out, hb]; rfl
     subst hrr
     clear hb
     go_wp2_with fail
     go_ret
     exact ⟨rfl, HE.out.trans HX3.out⟩
    | true =>
     have HA3 : Hid (((names.drop (j + 1)).all (fun x => nameP x.data.toList) && rmayL kids) = r) := Lib.hid (by rw [← HA2.out, hb]; rfl)
     clear hb
     go_wp2_with fail
     go_roundw
     case rel => exact ⟨j + 1, hlt, by go_num, HA3, HX3⟩
     case measure => simp [intOf]; omega
   ·obtain rfl : nl = j := by omega
    have k2 : decide ((nl : Int) < (nl : Int)) = false := decide_eq_false (by omega)
    have HA2 : Hid (rmayL kids = r) := Lib.hid (by
     have h1 := HA.out
     rw [List.drop_eq_nil_of_le (by rw [HNL.out]; exact Nat.le_refl _)] at h1
     exact h1)
    go_wp2_with fail
    clear c0 c1 c2 c3 c4 c5 k2
    go_loopw [6] (fun v wr2 => ∃ i : Nat, i ≤ kl ∧ v = .int .i64 i ∧ Hid (rmayL (kids.drop i) = r) ∧ Hid (Ext (w.alloc (.cells #[.int .i64 13, .string eB, .string eB, .int .i64 n, .slice qn nl cn, .slice ql kl cl] 28)) wr2)) (fun v _ => kl - (intOf v).toNat)
    case atStart => exact ⟨0, Nat.zero_le _, rfl, HA2, HX⟩
    case round =>
     obtain ⟨i, hi, rfl, HC, HX2⟩ := hrel
     obtain ⟨c0, c1, c2, c3, c4, c5⟩ := HB.out _ HX2.out
     by_cases hlt2 : i < kl
     ·have kl' : i < kids.length := by rw [HKL.out]; exact hlt2
      obtain ⟨b, o, qn', cn', ql', cl', rfl, d0, d1, d2, d3, d4, d5, hnd⟩ := ((by have := HK0.out; rw [← HKL.out] at this; exact this : KidsAt ok w d (.slice ql kids.length cl) kids).ext (HE.out.trans HX2.out)).node kl'
      have hcc := HSUB.out kids[i] (List.getElem_mem kl') _ _ (HE.out.trans HX2.out) hnd
      have hd2 := rmayL_drop kids i kl'
      rw [HC.out] at hd2
      obtain ⟨y, hy⟩ : ∃ y, kids[i] = y := ⟨_, rfl⟩
      rw [hy] at d0 d1 d2 d3 d4 d5 hd2 hcc
      generalize y.names.length = yn at *
      generalize y.kids.length = yk at *
      have k0 : (0 : Int) ≤ (i : Int) := by omega
      have k1 : (i : Int) < (kl : Int) := by omega
      have k2 : decide ((i : Int) < (kl : Int)) = true := decide_eq_true k1
      have k3 : decide (i < kl) = true := decide_eq_true hlt2
      have HD := Lib.hid hd2
      have HCC := Lib.hid hcc
      clear hnd hy kl' hd2 hcc
      go_wp2_with fail
      refine HCC.out.mono ?_
      rintro e w3 ⟨rfl, e3⟩
      have HX3 := Lib.hid (HX2.out.trans e3)
      clear e3 HCC c0 c1 c2 c3 c4 c5 d0 d1 d2 d3 d4 d5
      cases hb : rmayN y with
      | false =>
       have hrr : r = false := by rw [HD.out, hb]; rfl
       subst hrr
       clear hb
       go_wp2_with fail
       go_ret
       exact ⟨rfl, HE.out.trans HX3.out⟩
      | true =>
       have HD2 : Hid (rmayL (kids.drop (i + 1)) = r) := Lib.hid (by rw [HD.out, hb]; rfl)
       clear hb
       go_wp2_with fail
       go_roundw
       case rel => exact ⟨i + 1, hlt2, by go_num, HD2, HX3⟩
       case measure => simp [intOf]; omega
     ·obtain rfl : kl = i := by omega
      have hrr : r = true := by
       rw [← HC.out, List.drop_eq_nil_of_le (by rw [HKL.out]; exact Nat.le_refl _)]; rfl
      subst hrr
      have k2 : decide ((kl : Int) < (kl : Int)) = false := decide_eq_false (by omega)
      go_wp2_with fail
      go_ret
      exact ⟨rfl, HE.out.trans HX2.out⟩
theorem rmay_1 (w : World) (ok : Nat → Prop) (d : Nat) (n : Int) (a t : ByteArray) (names : List ByteArray) (kids : List Nd) (qn : Option Addr) (cn : Nat) (ql : Option Addr) (cl : Nat) (hn : TxtsAt ok w (.slice qn names.length cn) names) (hkd : KidsAt ok w d (.slice ql kids.length cl) kids) (hnm : names.length ≤ 140737488355328) (hkm : kids.length ≤ 140737488355328) (hs : ∀ x ∈ kids, In64 x.k)
  (hsub : SubN w ok d kids fun y v W => Calls Tryz.prog 44 #[v] W fun e w' => e = .returned (.bool (rmayN y)) ∧ Ext W w') :
  Calls Tryz.prog 44 #[.agg #[.int .i64 1, .string a, .string t, .int .i64 n, .slice qn names.length cn, .slice ql kids.length cl]] w fun e w' => e = .returned (.bool (rnodeP 1 a t n names kids && rmayL kids)) ∧ Ext w w' := by
 have HKD := Lib.hid (fun W (e : Ext w W) => rkids_all W ok d 1 a t n qn names.length cn ql cl kids (hkd.ext e) hkm hs (by decide))
 have HSUB := Lib.hid hsub
 obtain ⟨r, hr⟩ : ∃ r, (rnodeP 1 a t n names kids && rmayL kids) = r := ⟨_, rfl⟩
 rw [hr]
 have HR := Lib.hid hr
 obtain ⟨nl, hnl⟩ : ∃ n, names.length = n := ⟨_, rfl⟩
 obtain ⟨kl, hkl⟩ : ∃ n, kids.length = n := ⟨_, rfl⟩
 have HNL := Lib.hid hnl
 have HKL := Lib.hid hkl
 rw [hnl] at hnm HKD hn
 rw [hkl] at hkm HKD hkd
 rw [hnl, hkl]
 have HN0 := Lib.hid hn
 have HK0 := Lib.hid hkd
 have HE := Lib.hid ((Ext.refl w).alloc (.cells #[.int .i64 1, .string a, .string t, .int .i64 n, .slice qn nl cn, .slice ql kl cl] 28))
 have HB := Lib.hid (fun W => nd_box (w := w) (W := W) (x := .mk 1 a t n names kids) (nv := .slice qn nl cn) (lv := .slice ql kl cl))
 simp only [Nd.k, Nd.name, Nd.text, Nd.n] at HB
 clear hn hkd hsub hs hr hnl hkl
 cases F0 : rkidsP 1 nl kids with
 | false =>
  rw [F0] at HKD
  have hrr : r = false := by rw [← HR.out]; simp [rnodeP, hasName, HNL.out, F0]
  subst hrr
  clear F0 HR
  go_enter Tryz.func44, Tryz.ntmps44
  go_wp2_with fail
  refine (HKD.out _ HE.out).mono ?_
  rintro e w1 ⟨rfl, e1⟩
  have E1 := Lib.hid (HE.out.trans e1)
  obtain ⟨c0, c1, c2, c3, c4, c5⟩ := HB.out w1 e1
  have B1 := Lib.hid e1
  clear e1 HKD
  go_wp2_with fail
  go_ret
  exact ⟨rfl, E1.out⟩
 | true =>
  rw [F0] at HKD
  have HF0 := Lib.hid F0
  clear F0
  by_cases ha : a = eB
  rotate_left
  ·obtain ⟨y1, y2, y3, y4⟩ := ne_empty ha
   have hrr : r = false := by rw [← HR.out]; simp [rnodeP, hasName, HNL.out, HF0.out, y4]
   subst hrr
   clear y4 HR ha
   go_enter Tryz.func44, Tryz.ntmps44
   go_wp2_with fail
   refine (HKD.out _ HE.out).mono ?_
   rintro e w1 ⟨rfl, e1⟩
   have E1 := Lib.hid (HE.out.trans e1)
   obtain ⟨c0, c1, c2, c3, c4, c5⟩ := HB.out w1 e1
   have B1 := Lib.hid e1
   clear e1 HKD
   have E2 := E1
   have B2 := B1
   go_wp2_with fail
   go_ret
   exact ⟨rfl, E2.out⟩
  subst ha
  have y5 : (eB == eB) = true := (ba_iff _ _).2 rfl
  have FN := Lib.hid y5
  clear y5
  by_cases ht : t = eB
  rotate_left
  ·obtain ⟨y1, y2, y3, y4⟩ := ne_empty ht
   have hrr : r = false := by rw [← HR.out]; simp [rnodeP, hasName, HNL.out, HF0.out, FN.out, y4]
   subst hrr
   clear y4 HR ht
   go_enter Tryz.func44, Tryz.ntmps44
   go_wp2_with fail
   refine (HKD.out _ HE.out).mono ?_
   rintro e w1 ⟨rfl, e1⟩
   have E1 := Lib.hid (HE.out.trans e1)
   obtain ⟨c0, c1, c2, c3, c4, c5⟩ := HB.out w1 e1
   have B1 := Lib.hid e1
   clear e1 HKD
   have E2 := E1
   have B2 := B1
   go_wp2_with fail
   go_ret
   exact ⟨rfl, E2.out⟩
  subst ht
  have y5 : (eB == eB) = true := (ba_iff _ _).2 rfl
  have FT := Lib.hid y5
  clear y5
  by_cases hz : n = 0
  rotate_left
  ·have y1 : (n != 0) = true := bne_iff_ne.2 hz
   have y2 : (n == 0) = false := beq_eq_false_iff_ne.2 hz
   have hrr : r = false := by rw [← HR.out]; simp [rnodeP, hasName, HNL.out, HF0.out, FN.out, FT.out, hz]
   subst hrr
   clear hz HR
   go_enter Tryz.func44, Tryz.ntmps44
   go_wp2_with fail
   refine (HKD.out _ HE.out).mono ?_
   rintro e w1 ⟨rfl, e1⟩
   have E1 := Lib.hid (HE.out.trans e1)
   obtain ⟨c0, c1, c2, c3, c4, c5⟩ := HB.out w1 e1
   have B1 := Lib.hid e1
   clear e1 HKD
   have E2 := E1
   have B2 := B1
   go_wp2_with fail
   go_ret
   exact ⟨rfl, E2.out⟩
  subst hz
  by_cases hq : 1 ≤ nl
  rotate_left
  ·have z1 : decide ((nl : Int) < 1) = true := decide_eq_true (by omega)
   have z2 : nl = 0 := by omega
   have hrr : r = false := by rw [← HR.out]; simp [rnodeP, hasName, HNL.out, HF0.out, FN.out, FT.out, z2]
   subst hrr
   clear hq z2 HR
   go_enter Tryz.func44, Tryz.ntmps44
   go_wp2_with fail
   refine (HKD.out _ HE.out).mono ?_
   rintro e w1 ⟨rfl, e1⟩
   have E1 := Lib.hid (HE.out.trans e1)
   obtain ⟨c0, c1, c2, c3, c4, c5⟩ := HB.out w1 e1
   have B1 := Lib.hid e1
   clear e1 HKD
   have E2 := E1
   have B2 := B1
   go_wp2_with fail
   go_ret
   exact ⟨rfl, E2.out⟩
  have z1 : decide ((nl : Int) < 1) = false := decide_eq_false (by omega)
  have FQ := Lib.hid hq
  clear hq
  have HR2 : Hid ((names.all (fun x => nameP x.data.toList) && rmayL kids) = r) := Lib.hid (by rw [← HR.out]; simp [rnodeP, hasName, HNL.out, HF0.out, FN.out, FT.out, FQ.out])
  clear HR
  go_enter Tryz.func44, Tryz.ntmps44
  go_wp2_with fail
  refine (HKD.out _ HE.out).mono ?_
  rintro e w1 ⟨rfl, e1⟩
  have E1 := Lib.hid (HE.out.trans e1)
  obtain ⟨c0, c1, c2, c3, c4, c5⟩ := HB.out w1 e1
  have B1 := Lib.hid e1
  clear e1 HKD
  have E2 := E1
  have B2 := B1
  go_wp2_with fail
  clear c0 c1 c2 c3 c4 c5
  go_loopw [5] (fun v wr => ∃ j : Nat, j ≤ nl ∧ v = .int .i64 j ∧ Hid (((names.drop j).all (fun x => nameP x.data.toList) && rmayL kids) = r) ∧ Hid (Ext (w.alloc (.cells #[.int .i64 1, .string eB, .string eB, .int .i64 0, .slice qn nl cn, .slice ql kl cl] 28)) wr)) (fun v _ => nl - (intOf v).toNat)
  case atStart => exact ⟨0, Nat.zero_le _, rfl, HR2, B2⟩
  case round =>
   obtain ⟨j, hj, rfl, HA, HX⟩ := hrel
   obtain ⟨c0, c1, c2, c3, c4, c5⟩ := HB.out wr HX.out
   by_cases hlt : j < nl
   ·have kl : j < names.length := by rw [HNL.out]; exact hlt
    obtain ⟨b, o, rfl, d0⟩ := ((by have := HN0.out; exact this : TxtsAt ok w (.slice qn nl cn) names).ext (HE.out.trans HX.out)).elem kl
    have hA := HA.out
    rw [all_drop' _ names j kl] at hA
    obtain ⟨y, hy⟩ : ∃ y, names[j] = y := ⟨_, rfl⟩
    rw [hy] at d0 hA
    have k0 : (0 : Int) ≤ (j : Int) := by omega
    have k1 : (j : Int) < (nl : Int) := by omega
    have k2 : decide ((j : Int) < (nl : Int)) = true := decide_eq_true k1
    have k3 : decide (j < nl) = true := decide_eq_true hlt
    have HA2 := Lib.hid hA
    clear hy kl hA
    go_wp2_with fail
    refine (rname_any wr y).mono ?_
    rintro e w3 ⟨rfl, e3⟩
    have HX3 := Lib.hid (HX.out.trans e3)
    clear e3 c0 c1 c2 c3 c4 c5
    cases hb : nameP y.data.toList with
    | false =>
     have hrr : r = false := by rw [← HA2.out, hb]; rfl
     subst hrr
     clear hb
     go_wp2_with fail
     go_ret
     exact ⟨rfl, HE.out.trans HX3.out⟩
    | true =>
     have HA3 : Hid (((names.drop (j + 1)).all (fun x => nameP x.data.toList) && rmayL kids) = r) := Lib.hid (by rw [← HA2.out, hb]; rfl)
     clear hb
     go_wp2_with fail
     go_roundw
     case rel => exact ⟨j + 1, hlt, by go_num, HA3, HX3⟩
     case measure => simp [intOf]; omega
   ·obtain rfl : nl = j := by omega
    have k2 : decide ((nl : Int) < (nl : Int)) = false := decide_eq_false (by omega)
    have HA2 : Hid (rmayL kids = r) := Lib.hid (by
     have h1 := HA.out
     rw [List.drop_eq_nil_of_le (by rw [HNL.out]; exact Nat.le_refl _)] at h1
     exact h1)
    go_wp2_with fail
    clear c0 c1 c2 c3 c4 c5 k2
    go_loopw [6] (fun v wr2 => ∃ i : Nat, i ≤ kl ∧ v = .int .i64 i ∧ Hid (rmayL (kids.drop i) = r) ∧ Hid (Ext (w.alloc (.cells #[.int .i64 1, .string eB, .string eB, .int .i64 0, .slice qn nl cn, .slice ql kl cl] 28)) wr2)) (fun v _ => kl - (intOf v).toNat)
    case atStart => exact ⟨0, Nat.zero_le _, rfl, HA2, HX⟩
    case round =>
     obtain ⟨i, hi, rfl, HC, HX2⟩ := hrel
     obtain ⟨c0, c1, c2, c3, c4, c5⟩ := HB.out _ HX2.out
     by_cases hlt2 : i < kl
     ·have kl' : i < kids.length := by rw [HKL.out]; exact hlt2
      obtain ⟨b, o, qn', cn', ql', cl', rfl, d0, d1, d2, d3, d4, d5, hnd⟩ := ((by have := HK0.out; rw [← HKL.out] at this; exact this : KidsAt ok w d (.slice ql kids.length cl) kids).ext (HE.out.trans HX2.out)).node kl'
      have hcc := HSUB.out kids[i] (List.getElem_mem kl') _ _ (HE.out.trans HX2.out) hnd
      have hd2 := rmayL_drop kids i kl'
      rw [HC.out] at hd2
      obtain ⟨y, hy⟩ : ∃ y, kids[i] = y := ⟨_, rfl⟩
      rw [hy] at d0 d1 d2 d3 d4 d5 hd2 hcc
      generalize y.names.length = yn at *
      generalize y.kids.length = yk at *
      have k0 : (0 : Int) ≤ (i : Int) := by omega
      have k1 : (i : Int) < (kl : Int) := by omega
      have k2 : decide ((i : Int) < (kl : Int)) = true := decide_eq_true k1
      have k3 : decide (i < kl) = true := decide_eq_true hlt2
      have HD := Lib.hid hd2
      have HCC := Lib.hid hcc
      clear hnd hy kl' hd2 hcc
      go_wp2_with fail
      refine HCC.out.mono ?_
      rintro e w3 ⟨rfl, e3⟩
      have HX3 := Lib.hid (HX2.out.trans e3)
      clear e3 HCC c0 c1 c2 c3 c4 c5 d0 d1 d2 d3 d4 d5
      cases hb : rmayN y with
      | false =>
       have hrr : r = false := by rw [HD.out, hb]; rfl
       subst hrr
       clear hb
       go_wp2_with fail
       go_ret
       exact ⟨rfl, HE.out.trans HX3.out⟩
      | true =>
       have HD2 : Hid (rmayL (kids.drop (i + 1)) = r) := Lib.hid (by rw [HD.out, hb]; rfl)
       clear hb
       go_wp2_with fail
       go_roundw
       case rel => exact ⟨i + 1, hlt2, by go_num, HD2, HX3⟩
       case measure => simp [intOf]; omega
     ·obtain rfl : kl = i := by omega
      have hrr : r = true := by
       rw [← HC.out, List.drop_eq_nil_of_le (by rw [HKL.out]; exact Nat.le_refl _)]; rfl
      subst hrr
      have k2 : decide ((kl : Int) < (kl : Int)) = false := decide_eq_false (by omega)
      go_wp2_with fail
      go_ret
      exact ⟨rfl, HE.out.trans HX2.out⟩
theorem rmay_6 (w : World) (ok : Nat → Prop) (d : Nat) (n : Int) (a t : ByteArray) (names : List ByteArray) (kids : List Nd) (qn : Option Addr) (cn : Nat) (ql : Option Addr) (cl : Nat) (hn : TxtsAt ok w (.slice qn names.length cn) names) (hkd : KidsAt ok w d (.slice ql kids.length cl) kids) (hnm : names.length ≤ 140737488355328) (hkm : kids.length ≤ 140737488355328) (hs : ∀ x ∈ kids, In64 x.k)
  (hsub : SubN w ok d kids fun y v W => Calls Tryz.prog 44 #[v] W fun e w' => e = .returned (.bool (rmayN y)) ∧ Ext W w') :
  Calls Tryz.prog 44 #[.agg #[.int .i64 6, .string a, .string t, .int .i64 n, .slice qn names.length cn, .slice ql kids.length cl]] w fun e w' => e = .returned (.bool (rnodeP 6 a t n names kids && rmayL kids)) ∧ Ext w w' := by
 have HKD := Lib.hid (fun W (e : Ext w W) => rkids_all W ok d 6 a t n qn names.length cn ql cl kids (hkd.ext e) hkm hs (by decide))
 have HSUB := Lib.hid hsub
 obtain ⟨r, hr⟩ : ∃ r, (rnodeP 6 a t n names kids && rmayL kids) = r := ⟨_, rfl⟩
 rw [hr]
 have HR := Lib.hid hr
 obtain ⟨nl, hnl⟩ : ∃ n, names.length = n := ⟨_, rfl⟩
 obtain ⟨kl, hkl⟩ : ∃ n, kids.length = n := ⟨_, rfl⟩
 have HNL := Lib.hid hnl
 have HKL := Lib.hid hkl
 rw [hnl] at hnm HKD hn
 rw [hkl] at hkm HKD hkd
 rw [hnl, hkl]
 have HN0 := Lib.hid hn
 have HK0 := Lib.hid hkd
 have HE := Lib.hid ((Ext.refl w).alloc (.cells #[.int .i64 6, .string a, .string t, .int .i64 n, .slice qn nl cn, .slice ql kl cl] 28))
 have HB := Lib.hid (fun W => nd_box (w := w) (W := W) (x := .mk 6 a t n names kids) (nv := .slice qn nl cn) (lv := .slice ql kl cl))
 simp only [Nd.k, Nd.name, Nd.text, Nd.n] at HB
 clear hn hkd hsub hs hr hnl hkl
 cases F0 : rkidsP 6 nl kids with
 | false =>
  rw [F0] at HKD
  have hrr : r = false := by rw [← HR.out]; simp [rnodeP, hasName, HNL.out, F0]
  subst hrr
  clear F0 HR
  go_enter Tryz.func44, Tryz.ntmps44
  go_wp2_with fail
  refine (HKD.out _ HE.out).mono ?_
  rintro e w1 ⟨rfl, e1⟩
  have E1 := Lib.hid (HE.out.trans e1)
  obtain ⟨c0, c1, c2, c3, c4, c5⟩ := HB.out w1 e1
  have B1 := Lib.hid e1
  clear e1 HKD
  go_wp2_with fail
  go_ret
  exact ⟨rfl, E1.out⟩
 | true =>
  rw [F0] at HKD
  have HF0 := Lib.hid F0
  clear F0
  by_cases ha : a = eB
  rotate_left
  ·obtain ⟨y1, y2, y3, y4⟩ := ne_empty ha
   have hrr : r = false := by rw [← HR.out]; simp [rnodeP, hasName, HNL.out, HF0.out, y4]
   subst hrr
   clear y4 HR ha
   go_enter Tryz.func44, Tryz.ntmps44
   go_wp2_with fail
   refine (HKD.out _ HE.out).mono ?_
   rintro e w1 ⟨rfl, e1⟩
   have E1 := Lib.hid (HE.out.trans e1)
   obtain ⟨c0, c1, c2, c3, c4, c5⟩ := HB.out w1 e1
   have B1 := Lib.hid e1
   clear e1 HKD
   have E2 := E1
   have B2 := B1
   go_wp2_with fail
   go_ret
   exact ⟨rfl, E2.out⟩
  subst ha
  have y5 : (eB == eB) = true := (ba_iff _ _).2 rfl
  have FN := Lib.hid y5
  clear y5
  by_cases ht : t = eB
  rotate_left
  ·obtain ⟨y1, y2, y3, y4⟩ := ne_empty ht
   have hrr : r = false := by rw [← HR.out]; simp [rnodeP, hasName, HNL.out, HF0.out, FN.out, y4]
   subst hrr
   clear y4 HR ht
   go_enter Tryz.func44, Tryz.ntmps44
   go_wp2_with fail
   refine (HKD.out _ HE.out).mono ?_
   rintro e w1 ⟨rfl, e1⟩
   have E1 := Lib.hid (HE.out.trans e1)
   obtain ⟨c0, c1, c2, c3, c4, c5⟩ := HB.out w1 e1
   have B1 := Lib.hid e1
   clear e1 HKD
   have E2 := E1
   have B2 := B1
   go_wp2_with fail
   go_ret
   exact ⟨rfl, E2.out⟩
  subst ht
  have y5 : (eB == eB) = true := (ba_iff _ _).2 rfl
  have FT := Lib.hid y5
  clear y5
  by_cases hz : n = 0
  rotate_left
  ·have y1 : (n != 0) = true := bne_iff_ne.2 hz
   have y2 : (n == 0) = false := beq_eq_false_iff_ne.2 hz
   have hrr : r = false := by rw [← HR.out]; simp [rnodeP, hasName, HNL.out, HF0.out, FN.out, FT.out, hz]
   subst hrr
   clear hz HR
   go_enter Tryz.func44, Tryz.ntmps44
   go_wp2_with fail
   refine (HKD.out _ HE.out).mono ?_
   rintro e w1 ⟨rfl, e1⟩
   have E1 := Lib.hid (HE.out.trans e1)
   obtain ⟨c0, c1, c2, c3, c4, c5⟩ := HB.out w1 e1
   have B1 := Lib.hid e1
   clear e1 HKD
   have E2 := E1
   have B2 := B1
   go_wp2_with fail
   go_ret
   exact ⟨rfl, E2.out⟩
  subst hz
  by_cases hq : nl = 1
  rotate_left
  ·have z1 : ((nl : Int) != 1) = true := bne_iff_ne.2 (by omega)
   have z3 : ((nl : Int) == 1) = false := beq_eq_false_iff_ne.2 (by omega)
   have hrr : r = false := by rw [← HR.out]; simp [rnodeP, hasName, HNL.out, HF0.out, FN.out, FT.out, hq]
   subst hrr
   clear hq HR
   go_enter Tryz.func44, Tryz.ntmps44
   go_wp2_with fail
   refine (HKD.out _ HE.out).mono ?_
   rintro e w1 ⟨rfl, e1⟩
   have E1 := Lib.hid (HE.out.trans e1)
   obtain ⟨c0, c1, c2, c3, c4, c5⟩ := HB.out w1 e1
   have B1 := Lib.hid e1
   clear e1 HKD
   have E2 := E1
   have B2 := B1
   go_wp2_with fail
   go_ret
   exact ⟨rfl, E2.out⟩
  have z1 : ((nl : Int) != 1) = false := by simp; omega
  have z3 : ((nl : Int) == 1) = true := beq_iff_eq.2 (by omega)
  have FQ := Lib.hid hq
  have HF1 : Hid (rkidsP 6 1 kids = true) := Lib.hid (by rw [← hq]; exact HF0.out)
  clear hq
  have HR2 : Hid ((names.all (fun x => nameP x.data.toList) && rmayL kids) = r) := Lib.hid (by rw [← HR.out]; simp [rnodeP, hasName, HNL.out, HF0.out, FN.out, FT.out, FQ.out, HF1.out])
  clear HR
  go_enter Tryz.func44, Tryz.ntmps44
  go_wp2_with fail
  refine (HKD.out _ HE.out).mono ?_
  rintro e w1 ⟨rfl, e1⟩
  have E1 := Lib.hid (HE.out.trans e1)
  obtain ⟨c0, c1, c2, c3, c4, c5⟩ := HB.out w1 e1
  have B1 := Lib.hid e1
  clear e1 HKD
  have E2 := E1
  have B2 := B1
  go_wp2_with fail
  clear c0 c1 c2 c3 c4 c5
  go_loopw [5] (fun v wr => ∃ j : Nat, j ≤ nl ∧ v = .int .i64 j ∧ Hid (((names.drop j).all (fun x => nameP x.data.toList) && rmayL kids) = r) ∧ Hid (Ext (w.alloc (.cells #[.int .i64 6, .string eB, .string eB, .int .i64 0, .slice qn nl cn, .slice ql kl cl] 28)) wr)) (fun v _ => nl - (intOf v).toNat)
  case atStart => exact ⟨0, Nat.zero_le _, rfl, HR2, B2⟩
  case round =>
   obtain ⟨j, hj, rfl, HA, HX⟩ := hrel
   obtain ⟨c0, c1, c2, c3, c4, c5⟩ := HB.out wr HX.out
   by_cases hlt : j < nl
   ·have kl : j < names.length := by rw [HNL.out]; exact hlt
    obtain ⟨b, o, rfl, d0⟩ := ((by have := HN0.out; exact this : TxtsAt ok w (.slice qn nl cn) names).ext (HE.out.trans HX.out)).elem kl
    have hA := HA.out
    rw [all_drop' _ names j kl] at hA
    obtain ⟨y, hy⟩ : ∃ y, names[j] = y := ⟨_, rfl⟩
    rw [hy] at d0 hA
    have k0 : (0 : Int) ≤ (j : Int) := by omega
    have k1 : (j : Int) < (nl : Int) := by omega
    have k2 : decide ((j : Int) < (nl : Int)) = true := decide_eq_true k1
    have k3 : decide (j < nl) = true := decide_eq_true hlt
    have HA2 := Lib.hid hA
    clear hy kl hA
    go_wp2_with fail
    refine (rname_any wr y).mono ?_
    rintro e w3 ⟨rfl, e3⟩
    have HX3 := Lib.hid (HX.out.trans e3)
    clear e3 c0 c1 c2 c3 c4 c5
    cases hb : nameP y.data.toList with
    | false =>
     have hrr : r = false := by rw [← HA2.out, hb]; rfl
     subst hrr
     clear hb
     go_wp2_with fail
     go_ret
     exact ⟨rfl, HE.out.trans HX3.out⟩
    | true =>
     have HA3 : Hid (((names.drop (j + 1)).all (fun x => nameP x.data.toList) && rmayL kids) = r) := Lib.hid (by rw [← HA2.out, hb]; rfl)
     clear hb
     go_wp2_with fail
     go_roundw
     case rel => exact ⟨j + 1, hlt, by go_num, HA3, HX3⟩
     case measure => simp [intOf]; omega
   ·obtain rfl : nl = j := by omega
    have k2 : decide ((nl : Int) < (nl : Int)) = false := decide_eq_false (by omega)
    have HA2 : Hid (rmayL kids = r) := Lib.hid (by
     have h1 := HA.out
     rw [List.drop_eq_nil_of_le (by rw [HNL.out]; exact Nat.le_refl _)] at h1
     exact h1)
    go_wp2_with fail
    clear c0 c1 c2 c3 c4 c5 k2
    go_loopw [6] (fun v wr2 => ∃ i : Nat, i ≤ kl ∧ v = .int .i64 i ∧ Hid (rmayL (kids.drop i) = r) ∧ Hid (Ext (w.alloc (.cells #[.int .i64 6, .string eB, .string eB, .int .i64 0, .slice qn nl cn, .slice ql kl cl] 28)) wr2)) (fun v _ => kl - (intOf v).toNat)
    case atStart => exact ⟨0, Nat.zero_le _, rfl, HA2, HX⟩
    case round =>
     obtain ⟨i, hi, rfl, HC, HX2⟩ := hrel
     obtain ⟨c0, c1, c2, c3, c4, c5⟩ := HB.out _ HX2.out
     by_cases hlt2 : i < kl
     ·have kl' : i < kids.length := by rw [HKL.out]; exact hlt2
      obtain ⟨b, o, qn', cn', ql', cl', rfl, d0, d1, d2, d3, d4, d5, hnd⟩ := ((by have := HK0.out; rw [← HKL.out] at this; exact this : KidsAt ok w d (.slice ql kids.length cl) kids).ext (HE.out.trans HX2.out)).node kl'
      have hcc := HSUB.out kids[i] (List.getElem_mem kl') _ _ (HE.out.trans HX2.out) hnd
      have hd2 := rmayL_drop kids i kl'
      rw [HC.out] at hd2
      obtain ⟨y, hy⟩ : ∃ y, kids[i] = y := ⟨_, rfl⟩
      rw [hy] at d0 d1 d2 d3 d4 d5 hd2 hcc
      generalize y.names.length = yn at *
      generalize y.kids.length = yk at *
      have k0 : (0 : Int) ≤ (i : Int) := by omega
      have k1 : (i : Int) < (kl : Int) := by omega
      have k2 : decide ((i : Int) < (kl : Int)) = true := decide_eq_true k1
      have k3 : decide (i < kl) = true := decide_eq_true hlt2
      have HD := Lib.hid hd2
      have HCC := Lib.hid hcc
      clear hnd hy kl' hd2 hcc
      go_wp2_with fail
      refine HCC.out.mono ?_
      rintro e w3 ⟨rfl, e3⟩
      have HX3 := Lib.hid (HX2.out.trans e3)
      clear e3 HCC c0 c1 c2 c3 c4 c5 d0 d1 d2 d3 d4 d5
      cases hb : rmayN y with
      | false =>
       have hrr : r = false := by rw [HD.out, hb]; rfl
       subst hrr
       clear hb
       go_wp2_with fail
       go_ret
       exact ⟨rfl, HE.out.trans HX3.out⟩
      | true =>
       have HD2 : Hid (rmayL (kids.drop (i + 1)) = r) := Lib.hid (by rw [HD.out, hb]; rfl)
       clear hb
       go_wp2_with fail
       go_roundw
       case rel => exact ⟨i + 1, hlt2, by go_num, HD2, HX3⟩
       case measure => simp [intOf]; omega
     ·obtain rfl : kl = i := by omega
      have hrr : r = true := by
       rw [← HC.out, List.drop_eq_nil_of_le (by rw [HKL.out]; exact Nat.le_refl _)]; rfl
      subst hrr
      have k2 : decide ((kl : Int) < (kl : Int)) = false := decide_eq_false (by omega)
      go_wp2_with fail
      go_ret
      exact ⟨rfl, HE.out.trans HX2.out⟩
theorem rmay_o (w : World) (ok : Nat → Prop) (d : Nat) (k : Int) (n : Int) (a t : ByteArray) (names : List ByteArray) (kids : List Nd) (qn : Option Addr) (cn : Nat) (ql : Option Addr) (cl : Nat) (hk : 0 ≤ k ∧ k ≤ 24) (hne : k ≠ 9 ∧ k ≠ 15 ∧ k ≠ 17 ∧ k ≠ 21 ∧ k ≠ 14 ∧ k ≠ 13 ∧ k ≠ 1 ∧ k ≠ 6) (hn : TxtsAt ok w (.slice qn names.length cn) names) (hkd : KidsAt ok w d (.slice ql kids.length cl) kids) (hnm : names.length ≤ 140737488355328) (hkm : kids.length ≤ 140737488355328) (hs : ∀ x ∈ kids, In64 x.k)
  (hsub : SubN w ok d kids fun y v W => Calls Tryz.prog 44 #[v] W fun e w' => e = .returned (.bool (rmayN y)) ∧ Ext W w') :
  Calls Tryz.prog 44 #[.agg #[.int .i64 k, .string a, .string t, .int .i64 n, .slice qn names.length cn, .slice ql kids.length cl]] w fun e w' => e = .returned (.bool (rnodeP k a t n names kids && rmayL kids)) ∧ Ext w w' := by
 have HKD := Lib.hid (fun W (e : Ext w W) => rkids_all W ok d k a t n qn names.length cn ql cl kids (hkd.ext e) hkm hs hk)
 have HSUB := Lib.hid hsub
 obtain ⟨r, hr⟩ : ∃ r, (rnodeP k a t n names kids && rmayL kids) = r := ⟨_, rfl⟩
 rw [hr]
 have HR := Lib.hid hr
 obtain ⟨nl, hnl⟩ : ∃ n, names.length = n := ⟨_, rfl⟩
 obtain ⟨kl, hkl⟩ : ∃ n, kids.length = n := ⟨_, rfl⟩
 have HNL := Lib.hid hnl
 have HKL := Lib.hid hkl
 rw [hnl] at hnm HKD hn
 rw [hkl] at hkm HKD hkd
 rw [hnl, hkl]
 have HN0 := Lib.hid hn
 have HK0 := Lib.hid hkd
 have HE := Lib.hid ((Ext.refl w).alloc (.cells #[.int .i64 k, .string a, .string t, .int .i64 n, .slice qn nl cn, .slice ql kl cl] 28))
 have HB := Lib.hid (fun W => nd_box (w := w) (W := W) (x := .mk k a t n names kids) (nv := .slice qn nl cn) (lv := .slice ql kl cl))
 simp only [Nd.k, Nd.name, Nd.text, Nd.n] at HB
 obtain ⟨x9, x15, x17, x21, x14, x13, x1, x6⟩ := hne
 have h9 : (k == 9) = false := beq_eq_false_iff_ne.2 x9
 have h15 : (k == 15) = false := beq_eq_false_iff_ne.2 x15
 have h17 : (k == 17) = false := beq_eq_false_iff_ne.2 x17
 have h21 : (k == 21) = false := beq_eq_false_iff_ne.2 x21
 have h14 : (k == 14) = false := beq_eq_false_iff_ne.2 x14
 have h13 : (k == 13) = false := beq_eq_false_iff_ne.2 x13
 have h1 : (k == 1) = false := beq_eq_false_iff_ne.2 x1
 have h6 : (k == 6) = false := beq_eq_false_iff_ne.2 x6
 have g21 : (k != 21) = true := bne_iff_ne.2 x21
 have g14 : (k != 14) = true := bne_iff_ne.2 x14
 have g13 : (k != 13) = true := bne_iff_ne.2 x13
 have g1 : (k != 1) = true := bne_iff_ne.2 x1
 have g6 : (k != 6) = true := bne_iff_ne.2 x6
 have g9 : (k != 9) = true := bne_iff_ne.2 x9
 have g0 : decide (k < 0) = false := decide_eq_false (by omega)
 have g24 : decide (24 < k) = false := decide_eq_false (by omega)
 have q0 : decide (0 ≤ k) = true := decide_eq_true hk.1
 have q24 : decide (k ≤ 24) = true := decide_eq_true hk.2
 have hwk : IntKind.i64.wrap k = k := IntWalk.i64_in _ (by omega)
 have hk0 := hk.1
 have hk24 := hk.2
 clear x9 x15 x17 x21 x14 x13 x1 x6 hk
 clear hn hkd hsub hs hr hnl hkl
 cases F0 : rkidsP k nl kids with
 | false =>
  rw [F0] at HKD
  have hrr : r = false := by rw [← HR.out]; simp [rnodeP, hasName, HNL.out, hk0, hk24, h9, h15, h17, h21, h14, h13, h1, h6, F0]
  subst hrr
  clear F0 HR
  go_enter Tryz.func44, Tryz.ntmps44
  go_wp2_with fail
  refine (HKD.out _ HE.out).mono ?_
  rintro e w1 ⟨rfl, e1⟩
  have E1 := Lib.hid (HE.out.trans e1)
  obtain ⟨c0, c1, c2, c3, c4, c5⟩ := HB.out w1 e1
  have B1 := Lib.hid e1
  clear e1 HKD
  go_wp2_with fail
  go_ret
  exact ⟨rfl, E1.out⟩
 | true =>
  rw [F0] at HKD
  have HF0 := Lib.hid F0
  clear F0
  by_cases ha : a = eB
  rotate_left
  ·obtain ⟨y1, y2, y3, y4⟩ := ne_empty ha
   have hrr : r = false := by rw [← HR.out]; simp [rnodeP, hasName, HNL.out, hk0, hk24, h9, h15, h17, h21, h14, h13, h1, h6, HF0.out, y4]
   subst hrr
   clear y4 HR ha
   go_enter Tryz.func44, Tryz.ntmps44
   go_wp2_with fail
   refine (HKD.out _ HE.out).mono ?_
   rintro e w1 ⟨rfl, e1⟩
   have E1 := Lib.hid (HE.out.trans e1)
   obtain ⟨c0, c1, c2, c3, c4, c5⟩ := HB.out w1 e1
   have B1 := Lib.hid e1
   clear e1 HKD
   have E2 := E1
   have B2 := B1
   go_wp2_with fail
   go_ret
   exact ⟨rfl, E2.out⟩
  subst ha
  have y5 : (eB == eB) = true := (ba_iff _ _).2 rfl
  have FN := Lib.hid y5
  clear y5
  by_cases ht : t = eB
  rotate_left
  ·obtain ⟨y1, y2, y3, y4⟩ := ne_empty ht
   have hrr : r = false := by rw [← HR.out]; simp [rnodeP, hasName, HNL.out, hk0, hk24, h9, h15, h17, h21, h14, h13, h1, h6, HF0.out, FN.out, y4]
   subst hrr
   clear y4 HR ht
   go_enter Tryz.func44, Tryz.ntmps44
   go_wp2_with fail
   refine (HKD.out _ HE.out).mono ?_
   rintro e w1 ⟨rfl, e1⟩
   have E1 := Lib.hid (HE.out.trans e1)
   obtain ⟨c0, c1, c2, c3, c4, c5⟩ := HB.out w1 e1
   have B1 := Lib.hid e1
   clear e1 HKD
   have E2 := E1
   have B2 := B1
   go_wp2_with fail
   go_ret
   exact ⟨rfl, E2.out⟩
  subst ht
  have y5 : (eB == eB) = true := (ba_iff _ _).2 rfl
  have FT := Lib.hid y5
  clear y5
  by_cases hz : n = 0
  rotate_left
  ·have y1 : (n != 0) = true := bne_iff_ne.2 hz
   have y2 : (n == 0) = false := beq_eq_false_iff_ne.2 hz
   have hrr : r = false := by rw [← HR.out]; simp [rnodeP, hasName, HNL.out, hk0, hk24, h9, h15, h17, h21, h14, h13, h1, h6, HF0.out, FN.out, FT.out, hz]
   subst hrr
   clear hz HR
   go_enter Tryz.func44, Tryz.ntmps44
   go_wp2_with fail
   refine (HKD.out _ HE.out).mono ?_
   rintro e w1 ⟨rfl, e1⟩
   have E1 := Lib.hid (HE.out.trans e1)
   obtain ⟨c0, c1, c2, c3, c4, c5⟩ := HB.out w1 e1
   have B1 := Lib.hid e1
   clear e1 HKD
   have E2 := E1
   have B2 := B1
   go_wp2_with fail
   go_ret
   exact ⟨rfl, E2.out⟩
  subst hz
  by_cases hq : nl = 0
  rotate_left
  ·have z1 : decide ((0 : Int) < (nl : Int)) = true := decide_eq_true (by omega)
   have z4 : decide (0 < nl) = true := decide_eq_true (by omega)
   have z3 : names.length = 0 → False := fun e => hq (HNL.out.symm.trans e)
   have z5 : (names == []) = false := by
    cases names with
    | nil => exact absurd rfl z3
    | cons _ _ => rfl
   have z6 : ¬ names = [] := fun e => z3 (by rw [e]; rfl)
   have hrr : r = false := by rw [← HR.out]; simp [rnodeP, hasName, HNL.out, hk0, hk24, h9, h15, h17, h21, h14, h13, h1, h6, HF0.out, FN.out, FT.out, hq]
   subst hrr
   clear hq HR z3 z5 z6
   go_enter Tryz.func44, Tryz.ntmps44
   go_wp2_with fail
   refine (HKD.out _ HE.out).mono ?_
   rintro e w1 ⟨rfl, e1⟩
   have E1 := Lib.hid (HE.out.trans e1)
   obtain ⟨c0, c1, c2, c3, c4, c5⟩ := HB.out w1 e1
   have B1 := Lib.hid e1
   clear e1 HKD
   have E2 := E1
   have B2 := B1
   go_wp2_with fail
   go_ret
   exact ⟨rfl, E2.out⟩
  have z1 : decide ((0 : Int) < (nl : Int)) = false := decide_eq_false (by omega)
  have z4 : decide (0 < nl) = false := decide_eq_false (by omega)
  have FQ := Lib.hid hq
  have HF1 : Hid (rkidsP k 0 kids = true) := Lib.hid (by rw [← hq]; exact HF0.out)
  clear hq
  have HR2 : Hid ((names.all (fun x => nameP x.data.toList) && rmayL kids) = r) := Lib.hid (by rw [← HR.out]; simp [rnodeP, hasName, HNL.out, hk0, hk24, h9, h15, h17, h21, h14, h13, h1, h6, HF0.out, FN.out, FT.out, FQ.out, HF1.out])
  clear HR
  go_enter Tryz.func44, Tryz.ntmps44
  go_wp2_with fail
  refine (HKD.out _ HE.out).mono ?_
  rintro e w1 ⟨rfl, e1⟩
  have E1 := Lib.hid (HE.out.trans e1)
  obtain ⟨c0, c1, c2, c3, c4, c5⟩ := HB.out w1 e1
  have B1 := Lib.hid e1
  clear e1 HKD
  have E2 := E1
  have B2 := B1
  go_wp2_with fail
  clear c0 c1 c2 c3 c4 c5
  go_loopw [5] (fun v wr => ∃ j : Nat, j ≤ nl ∧ v = .int .i64 j ∧ Hid (((names.drop j).all (fun x => nameP x.data.toList) && rmayL kids) = r) ∧ Hid (Ext (w.alloc (.cells #[.int .i64 k, .string eB, .string eB, .int .i64 0, .slice qn nl cn, .slice ql kl cl] 28)) wr)) (fun v _ => nl - (intOf v).toNat)
  case atStart => exact ⟨0, Nat.zero_le _, rfl, HR2, B2⟩
  case round =>
   obtain ⟨j, hj, rfl, HA, HX⟩ := hrel
   obtain ⟨c0, c1, c2, c3, c4, c5⟩ := HB.out wr HX.out
   by_cases hlt : j < nl
   ·have kl : j < names.length := by rw [HNL.out]; exact hlt
    obtain ⟨b, o, rfl, d0⟩ := ((by have := HN0.out; exact this : TxtsAt ok w (.slice qn nl cn) names).ext (HE.out.trans HX.out)).elem kl
    have hA := HA.out
    rw [all_drop' _ names j kl] at hA
    obtain ⟨y, hy⟩ : ∃ y, names[j] = y := ⟨_, rfl⟩
    rw [hy] at d0 hA
    have k0 : (0 : Int) ≤ (j : Int) := by omega
    have k1 : (j : Int) < (nl : Int) := by omega
    have k2 : decide ((j : Int) < (nl : Int)) = true := decide_eq_true k1
    have k3 : decide (j < nl) = true := decide_eq_true hlt
    have HA2 := Lib.hid hA
    clear hy kl hA
    go_wp2_with fail
    refine (rname_any wr y).mono ?_
    rintro e w3 ⟨rfl, e3⟩
    have HX3 := Lib.hid (HX.out.trans e3)
    clear e3 c0 c1 c2 c3 c4 c5
    cases hb : nameP y.data.toList with
    | false =>
     have hrr : r = false := by rw [← HA2.out, hb]; rfl
     subst hrr
     clear hb
     go_wp2_with fail
     go_ret
     exact ⟨rfl, HE.out.trans HX3.out⟩
    | true =>
     have HA3 : Hid (((names.drop (j + 1)).all (fun x => nameP x.data.toList) && rmayL kids) = r) := Lib.hid (by rw [← HA2.out, hb]; rfl)
     clear hb
     go_wp2_with fail
     go_roundw
     case rel => exact ⟨j + 1, hlt, by go_num, HA3, HX3⟩
     case measure => simp [intOf]; omega
   ·obtain rfl : nl = j := by omega
    have k2 : decide ((nl : Int) < (nl : Int)) = false := decide_eq_false (by omega)
    have HA2 : Hid (rmayL kids = r) := Lib.hid (by
     have h1 := HA.out
     rw [List.drop_eq_nil_of_le (by rw [HNL.out]; exact Nat.le_refl _)] at h1
     exact h1)
    go_wp2_with fail
    clear c0 c1 c2 c3 c4 c5 k2
    go_loopw [6] (fun v wr2 => ∃ i : Nat, i ≤ kl ∧ v = .int .i64 i ∧ Hid (rmayL (kids.drop i) = r) ∧ Hid (Ext (w.alloc (.cells #[.int .i64 k, .string eB, .string eB, .int .i64 0, .slice qn nl cn, .slice ql kl cl] 28)) wr2)) (fun v _ => kl - (intOf v).toNat)
    case atStart => exact ⟨0, Nat.zero_le _, rfl, HA2, HX⟩
    case round =>
     obtain ⟨i, hi, rfl, HC, HX2⟩ := hrel
     obtain ⟨c0, c1, c2, c3, c4, c5⟩ := HB.out _ HX2.out
     by_cases hlt2 : i < kl
     ·have kl' : i < kids.length := by rw [HKL.out]; exact hlt2
      obtain ⟨b, o, qn', cn', ql', cl', rfl, d0, d1, d2, d3, d4, d5, hnd⟩ := ((by have := HK0.out; rw [← HKL.out] at this; exact this : KidsAt ok w d (.slice ql kids.length cl) kids).ext (HE.out.trans HX2.out)).node kl'
      have hcc := HSUB.out kids[i] (List.getElem_mem kl') _ _ (HE.out.trans HX2.out) hnd
      have hd2 := rmayL_drop kids i kl'
      rw [HC.out] at hd2
      obtain ⟨y, hy⟩ : ∃ y, kids[i] = y := ⟨_, rfl⟩
      rw [hy] at d0 d1 d2 d3 d4 d5 hd2 hcc
      generalize y.names.length = yn at *
      generalize y.kids.length = yk at *
      have k0 : (0 : Int) ≤ (i : Int) := by omega
      have k1 : (i : Int) < (kl : Int) := by omega
      have k2 : decide ((i : Int) < (kl : Int)) = true := decide_eq_true k1
      have k3 : decide (i < kl) = true := decide_eq_true hlt2
      have HD := Lib.hid hd2
      have HCC := Lib.hid hcc
      clear hnd hy kl' hd2 hcc
      go_wp2_with fail
      refine HCC.out.mono ?_
      rintro e w3 ⟨rfl, e3⟩
      have HX3 := Lib.hid (HX2.out.trans e3)
      clear e3 HCC c0 c1 c2 c3 c4 c5 d0 d1 d2 d3 d4 d5
      cases hb : rmayN y with
      | false =>
       have hrr : r = false := by rw [HD.out, hb]; rfl
       subst hrr
       clear hb
       go_wp2_with fail
       go_ret
       exact ⟨rfl, HE.out.trans HX3.out⟩
      | true =>
       have HD2 : Hid (rmayL (kids.drop (i + 1)) = r) := Lib.hid (by rw [HD.out, hb]; rfl)
       clear hb
       go_wp2_with fail
       go_roundw
       case rel => exact ⟨i + 1, hlt2, by go_num, HD2, HX3⟩
       case measure => simp [intOf]; omega
     ·obtain rfl : kl = i := by omega
      have hrr : r = true := by
       rw [← HC.out, List.drop_eq_nil_of_le (by rw [HKL.out]; exact Nat.le_refl _)]; rfl
      subst hrr
      have k2 : decide ((kl : Int) < (kl : Int)) = false := decide_eq_false (by omega)
      go_wp2_with fail
      go_ret
      exact ⟨rfl, HE.out.trans HX2.out⟩
end Go.Proofs.YtkbcnacjaakleaaGreatDoor
