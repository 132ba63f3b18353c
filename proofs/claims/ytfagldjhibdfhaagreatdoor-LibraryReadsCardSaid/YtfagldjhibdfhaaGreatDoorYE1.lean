/- The document's remove. The document's keys. -/
import Derived.Test.YtfagldjhibdfhaaGreatDoorYD9
import Derived.Deep.DeepCutAuto
import Derived.Deep.CutBlock
import Derived.Test.YtfagldjhibdfhaaGreatDoorYD6
namespace Go.Proofs.YtfagldjhibdfhaaGreatDoor
open Go.RowKit
set_option linter.unusedVariables false
set_option linter.unusedSimpArgs false

set_option maxRecDepth 100000 in
set_option maxHeartbeats 8000000 in
theorem rremove1 (g : Nat) (tv : Value) (H : Hp) (w : World) (h : RHeapIn w g tv H) (hlen : H.tabs.length ≤ 9223372036854775807) (b o cap : Nat) (x0 : Vl) (hof : ofW H x0 = sNone) (a0 : ArgAt w b o x0) (nb : ¬ RFoot g tv b) :
  Calls Tryz.prog 124 #[.pointer (some ⟨g, 0, none⟩), .slice (some ⟨b, o, none⟩) 1 cap] w (RdE w g tv (removeR H x0 none)) := by
 have HI0 := Lib.hid h
 have hT := tabOf_ok h.ok (ofW_none hof).2.2.2.2
 have HTB := Lib.hid hT
 have hl0 := (lenV_tab hof).1
 have hmost := Nat.le_trans (tlen_le hT) hT.most
 obtain ⟨n, hn⟩ : ∃ n : Nat, lenV H x0 = (n : Int) := ⟨_, hl0⟩
 have HTN : Hid (tlen (tabOf H x0) = n) := Lib.hid (by omega)
 have hn2 : n ≤ 65536 := by omega
 have HB := Lib.hid (Blk.new w 26 #[.int .i64 0, .int .i64 0, .string ⟨#[]⟩])
 have HW := Lib.hid ((Ext.refl w).alloc (.cells #[.int .i64 0, .int .i64 0, .string ⟨#[]⟩] 26))
 have HNF : Hid (∀ x, w.heap.size ≤ x → ¬ RFoot g tv x) := Lib.hid (fun x hx hf => by have := HI0.out.low hf; omega)
 have hw2 := (lenV_tab hof).2
 have cL := Lib.hid (fun (W : World) (hW : RHeapIn W g tv H) => rlen_any g tv H x0 W hW hlen)
 rw [hn, hw2] at cL
 obtain ⟨r, hr⟩ : ∃ r, removeR H x0 none = r := ⟨_, rfl⟩
 rw [hr]
 have HR := Lib.hid hr
 obtain ⟨k0, n0, s0⟩ := x0
 have c0 := (a0.ext HW.out).k
 have c1 := (a0.ext HW.out).n
 have c2 := (a0.ext HW.out).s
 simp only at c0 c1 c2
 have hb := a0.lt
 have HA0 := Lib.hid a0
 have HNN := Lib.hid hn
 have HOF := Lib.hid hof
 have hq : sNone.toList = [] := sNone_list
 clear hn hl0 hT hmost hr h a0 hof hw2
 go_enter Tryz.func124, Tryz.ntmps124
 go_wp2_with fail
 refine (cL.out _ (HI0.out.ext HW.out)).mono ?_
 rintro e w1 ⟨rfl, e1x⟩
 have hbW0 : b < (w.alloc (.cells #[.int .i64 0, .int .i64 0, .string ⟨#[]⟩] 26)).heap.size := Nat.lt_of_lt_of_le hb HW.out.le
 replace c0 := (e1x.cells.1 b o hbW0).trans c0
 replace c1 := (e1x.cells.1 b (o + 1) hbW0).trans c1
 replace c2 := (e1x.cells.1 b (o + 2) hbW0).trans c2
 replace HB := Lib.hid (HB.out.ext e1x)
 replace HW := Lib.hid (HW.out.trans e1x)
 clear e1x cL hbW0
 have hbW : b < w1.heap.size := Nat.lt_of_lt_of_le hb HW.out.le
 have hwW : w.heap.size < w1.heap.size := HB.out.lt
 have hn0 : (0 : Int) ≤ (n : Int) := by omega
 have hnI : (n : Int) ≤ 65536 := by omega
 rcases Nat.eq_zero_or_pos n with hz | hz
 ·subst hz
  have HV : Hid (r = Rs.ok H Vl.zero) := Lib.hid (by
   rw [← HR.out]
   unfold removeR
   simp only [HNN.out]
   rw [if_pos (by simp)])
  obtain ⟨z0, z1, z2, y0, y1, y2⟩ := three HB.out
  have hlt2 := HB.out.lt
  go_wp2_with fail
  exact bodyPost_ret (v := .tuple #[Vl.zero.v, .string sNone]) (by simp [results, Tryz.results124, go_sem, Vl.zero, sNone, *]) rfl (by rw [HV.out]; exact ⟨by rfl, (RS.of_ext HI0.out (by repeat (first | exact HW.out | refine Ext.alloc ?_ _ | refine Ext.setCell ?_ (by simp <;> omega) _))).step⟩)
 have hnz : ((n : Int) == 0) = false := by rw [beq_eq_false_iff_ne]; omega
 have hnz2 : (n == 0) = false := by rw [beq_eq_false_iff_ne]; omega
 have t1 : decide ((n : Int) < 1) = false := decide_eq_false (by omega)
 have t2 : decide ((n : Int) < (n : Int)) = false := decide_eq_false (by omega)
 have t3 : decide (n < 1) = false := decide_eq_false (by omega)
 have t4 : decide (n = 0) = false := decide_eq_false (by omega)
 have hr1 : 1 ≤ (n : Int) := by omega
 have hr2 : (n : Int) ≤ n := Int.le_refl _
 have hG := Lib.hid (fun (Z : World) (hZ : RHeapIn Z g tv H) => rget_any g tv H ⟨k0, n0, s0⟩ (iK (n : Int)) Z hZ hlen)
 rw [getW_int HOF.out] at hG
 obtain ⟨gv, hgv⟩ : ∃ gv, getV H ⟨k0, n0, s0⟩ (iK (n : Int)) = gv := ⟨_, rfl⟩
 rw [hgv] at hG
 have HGV := Lib.hid hgv
 obtain ⟨gk, gn, gs⟩ := gv
 have HIX := Lib.hid (HI0.out.ext HW.out)
 clear hgv
 go_wp2_with fail
 go_upto_region 9 with (fail)
 go_cut [9] (fun s9 wx => ∃ bv : Nat, s9 = .pointer (some ⟨bv, 0, none⟩) ∧ (w.heap.size + 1) ≤ bv ∧ Hid (Blk wx bv 26 #[.int .i64 gk, .int .i64 gn, .string gs] ∧ Ext w1 wx))
 case first =>
  have hlowW : (w.heap.size + 1) ≤ w1.heap.size := by omega
  have hnb : ¬ w1.heap.size = b := by omega
  have hnb2 : ¬ b = w1.heap.size := by omega
  have hbS : b < w1.heap.size := by omega
  go_region_held3 (fun w' => w'.cell? ⟨b, o, none⟩ = some (.int .i64 k0) ∧ w'.cell? ⟨b, o + 1, none⟩ = some (.int .i64 n0) ∧ w'.cell? ⟨b, o + 2, none⟩ = some (.string s0)) (go_keep)
   (first
    | (go_at_call 116; refine (rnumber_any _ _).mono ?_; rintro e w3 ⟨rfl, e3⟩; have E3 := Lib.hid (show Ext w1 w3 from Ext.trans (by repeat (first | exact Ext.refl _ | refine Ext.drew ?_ | refine Ext.alloc ?_ _)) e3); have x0 := (E3.out.cells.1 _ _ hbS).trans c0; have x1 := (E3.out.cells.1 _ _ hbS).trans c1; have x2 := (E3.out.cells.1 _ _ hbS).trans c2; have L3 : b < w3.heap.size := Nat.lt_of_lt_of_le hbS E3.out.le; have nn3 : ¬ w3.heap.size = b := Nat.ne_of_gt L3; have nm3 : ¬ b = w3.heap.size := Nat.ne_of_lt L3; (try (have hq : Ext (World.alloc w1.drew (.cells #[.int .i64 0, .int .i64 0, .string ⟨#[]⟩] 26)) w3 := (by with_reducible exact e3); have ZA := Lib.hid (ZV.new w1.heap.size rfl hq); clear hq)); (try (have hq : Ext (World.drew (World.alloc w1 (.cells #[.int .i64 0, .int .i64 0, .string ⟨#[]⟩] 26))) w3 := (by with_reducible exact e3); have ZA := Lib.hid (ZV.newd w1.heap.size rfl hq); clear hq)); clear e3)
    | (go_at_call 89; refine (hG.out _ (by repeat (first | exact HIX.out.ext E3.out | refine RHeapIn.ext ?_ (Ext.alloc (Ext.refl _) _)))).mono ?_; rintro e w5 ⟨rfl, e5⟩; have E5 := Lib.hid (show Ext w1 w5 from Ext.trans (by repeat (first | exact E3.out | refine Ext.alloc ?_ _)) e5); have v0 := (E5.out.cells.1 _ _ hbS).trans c0; have v1 := (E5.out.cells.1 _ _ hbS).trans c1; have v2 := (E5.out.cells.1 _ _ hbS).trans c2; have L5 : b < w5.heap.size := Nat.lt_of_lt_of_le hbS E5.out.le; have nn5 : ¬ w5.heap.size = b := Nat.ne_of_gt L5; have nm5 : ¬ b = w5.heap.size := Nat.ne_of_lt L5; (try (have hz : Hid (ZV w3 w1.heap.size) := (by with_reducible assumption); have ZZ := Lib.hid (hz.out.ext e5); obtain ⟨zl, zv0, zv1, zv2, zf0, zf1, zf2⟩ := ZZ.out.facts; clear hz)); (try (have hq : Ext (World.alloc w3 (.cells #[.int .i64 0, .int .i64 0, .string ⟨#[]⟩] 26)) w5 := (by with_reducible exact e5); have ZZ := Lib.hid (ZV.new w3.heap.size rfl hq); obtain ⟨zl, zv0, zv1, zv2, zf0, zf1, zf2⟩ := ZZ.out.facts; clear hq)); clear e5))
  all_goals go_wp2_with fail
  all_goals (
   go_meet
   first
    | exact ⟨_, rfl, hlowW, Lib.hid ⟨put3 ZZ.out _ _ _, ((E5.out.setCell (Nat.le_refl _) _).setCell (Nat.le_refl _) _).setCell (Nat.le_refl _) _⟩⟩
    | exact ⟨_, rfl, Nat.le_trans hlowW E3.out.le, Lib.hid ⟨put3 ZZ.out _ _ _, ((E5.out.setCell E3.out.le _).setCell E3.out.le _).setCell E3.out.le _⟩⟩
    | exact ⟨_, rfl, Nat.le_trans hlowW E5.out.le, Lib.hid ⟨Blk.new _ _ _, E5.out.alloc _⟩⟩)
 case rest =>
 obtain ⟨bv, rfl, hbv, HXX⟩ := hcut
 obtain ⟨wx, rfl⟩ : ∃ wx : World, wx = wc := ⟨_, rfl⟩
 have EX := Lib.hid (HW.out.trans HXX.out.2)
 have HU0 : Hid (RLpI w wx g tv H ⟨k0, n0, s0⟩ ⟨gk, gn, gs⟩ bv H) := Lib.hid ⟨HI0.out.ext EX.out, .of_ext EX.out, rfl, HOF.out, hbv, HXX.out.1, HB.out.ext HXX.out.2⟩
 obtain ⟨r0, hr0⟩ : ∃ r0, dnP ⟨k0, n0, s0⟩ (n : Int) ((n : Int) - (n : Int)).toNat H = r0 := ⟨_, rfl⟩
 have hfin := dn_get ⟨k0, n0, s0⟩ (n : Int) (by omega) ((n : Int) - (n : Int)).toNat H HI0.out.ok HOF.out (by omega) (fun i h3 h4 => by have h5 := tlen_some HTB.out i (by omega) (by rw [HTN.out]; omega); exact h5)
 have hf0 := hfin.1
 rw [hr0] at hf0
 have HF0 := Lib.hid hf0
 have HS0 : Hid (r = .ok (setH r0.1 ⟨k0, n0, s0⟩ (iK n) Vl.zero) ⟨gk, gn, gs⟩ ∧ setW r0.1 ⟨k0, n0, s0⟩ (iK n) Vl.zero = sNone) := Lib.hid (by
  have hof0 : ofW r0.1 ⟨k0, n0, s0⟩ = sNone := by rw [← hr0]; exact hfin.2.2.1
  have hw0 : setW r0.1 ⟨k0, n0, s0⟩ (iK n) Vl.zero = sNone := setW_old hof0 ck_zero (.inr rfl)
  refine ⟨?_, hw0⟩
  rw [← HR.out]
  unfold removeR
  simp only [HNN.out, Option.getD_some, Option.getD_none]
  rw [if_neg (by rintro ⟨h1, h2⟩; first | omega | cases h1), if_neg (by omega), hr0, if_pos hf0, if_pos hw0, HGV.out])
 have HX0 := Lib.hid hr0
 clear HXX HB HW hbW hwW hr0 hfin hf0 hG HIX c0 c1 c2
 go_wp2_with fail
 go_loopw [11] (fun s11 wr => ∃ (i : Int) (k : Nat) (Hc : Hp), s11 = .int .i64 i ∧ Hid (i = n - k) ∧ (n : Int) ≤ i ∧ i ≤ (n : Int) ∧ Hid (dnP ⟨k0, n0, s0⟩ (n : Int) k Hc = r0) ∧ Hid (RLpI w wr g tv H ⟨k0, n0, s0⟩ ⟨gk, gn, gs⟩ bv Hc)) (fun s11 _ => ((n : Int) - intOf s11).toNat)
 case atStart => exact ⟨(n : Int), _, H, rfl, Lib.hid (by omega), by omega, by omega, HX0, HU0⟩
 case round =>
  obtain ⟨i, k, Hc, rfl, hik, hi1, hi2, HSP, HUP⟩ := hrel
  clear HU0 HX0
  have hbr : b < wr.heap.size := Nat.lt_of_lt_of_le hb HUP.out.touch.size
  have hwr1 : w.heap.size < wr.heap.size := HUP.out.res.lt
  have aa := HA0.out.of (HUP.out.touch.block b hb nb)
  have c0 := aa.k
  have c1 := aa.n
  have c2 := aa.s
  simp only at c0 c1 c2
  clear aa
  by_cases hge : i < (n : Int)
  ·have hd : decide (i < (n : Int)) = true := decide_eq_true hge
   obtain ⟨k, rfl⟩ : ∃ k', k = k' + 1 := ⟨k - 1, by have := hik.out; omega⟩
   have HIK : Hid (i + 1 = n - k) := Lib.hid (by have := hik.out; omega)
   have hG := Lib.hid (fun (Z : World) (hZ : RHeapIn Z g tv Hc) => rget_any g tv Hc ⟨k0, n0, s0⟩ (iK (i + 1)) Z hZ (by rw [HUP.out.len]; exact hlen))
   rw [getW_int HUP.out.of] at hG
   have hS := Lib.hid (fun (Z : World) (hZ : RHeapIn Z g tv Hc) => rset_any g tv Hc ⟨k0, n0, s0⟩ (iK i) (getV Hc ⟨k0, n0, s0⟩ (iK (i + 1))) Z hZ (by rw [HUP.out.len]; exact hlen) ⟨by show (-9223372036854775808 : Int) ≤ i; omega, by show i ≤ (9223372036854775807 : Int); omega⟩ (getV_ok HUP.out.heap.ok _ _).1)
   have HG := Lib.hid HUP.out.heap
   have HSP2 : Hid (setW Hc ⟨k0, n0, s0⟩ (iK i) (getV Hc ⟨k0, n0, s0⟩ (iK (i + 1))) = sNone ∧ dnP ⟨k0, n0, s0⟩ (n : Int) k (setH Hc ⟨k0, n0, s0⟩ (iK i) (getV Hc ⟨k0, n0, s0⟩ (iK (i + 1)))) = r0) := Lib.hid (by
    have h9 := HSP.out
    have e9 : (n : Int) - (k : Int) - 1 = i := by have := HIK.out; omega
    have e8 : (n : Int) - (k : Int) = i + 1 := by have := HIK.out; omega
    unfold dnP at h9
    rw [e9, e8] at h9
    by_cases hs : setW Hc ⟨k0, n0, s0⟩ (iK i) (getV Hc ⟨k0, n0, s0⟩ (iK (i + 1))) = sNone
    ·rw [if_pos hs] at h9
     exact ⟨hs, h9⟩
    ·rw [if_neg hs] at h9
     have := HF0.out
     rw [← h9] at this
     exact absurd this hs)
   obtain ⟨qv, hqv⟩ : ∃ qv, getV Hc ⟨k0, n0, s0⟩ (iK (i + 1)) = qv := ⟨_, rfl⟩
   rw [hqv] at hG hS HSP2
   obtain ⟨qk, qn, qs⟩ := qv
   obtain ⟨st, hst⟩ : ∃ st, setW Hc ⟨k0, n0, s0⟩ (iK i) ⟨qk, qn, qs⟩ = st := ⟨_, rfl⟩
   rw [hst] at hS HSP2
   have hwr : IntKind.i64.wrap (i + 1) = i + 1 := IntWalk.i64_in _ (by omega)
   have hib : i + 1 ≤ 9223372036854775807 := by omega
   clear hqv hst hge hik HSP
   go_wp2_with fail
   go_upto_region 13 with (fail)
   go_cut [12] (fun s12 wx => ∃ bv : Nat, s12 = .pointer (some ⟨bv, 0, none⟩) ∧ (w.heap.size + 1) ≤ bv ∧ Hid (Blk wx bv 26 #[.int .i64 qk, .int .i64 qn, .string qs] ∧ Ext wr wx))
   case first =>
    have hlowW : (w.heap.size + 1) ≤ wr.heap.size := by omega
    have hnb : ¬ wr.heap.size = b := by omega
    have hnb2 : ¬ b = wr.heap.size := by omega
    have hbS : b < wr.heap.size := by omega
    go_region_held3 (fun w' => w'.cell? ⟨b, o, none⟩ = some (.int .i64 k0) ∧ w'.cell? ⟨b, o + 1, none⟩ = some (.int .i64 n0) ∧ w'.cell? ⟨b, o + 2, none⟩ = some (.string s0)) (go_keep)
     (first
      | (go_at_call 116; refine (rnumber_any _ _).mono ?_; rintro e w3 ⟨rfl, e3⟩; have E3 := Lib.hid (show Ext wr w3 from Ext.trans (by repeat (first | exact Ext.refl _ | refine Ext.drew ?_ | refine Ext.alloc ?_ _)) e3); have x0 := (E3.out.cells.1 _ _ hbS).trans c0; have x1 := (E3.out.cells.1 _ _ hbS).trans c1; have x2 := (E3.out.cells.1 _ _ hbS).trans c2; have L3 : b < w3.heap.size := Nat.lt_of_lt_of_le hbS E3.out.le; have nn3 : ¬ w3.heap.size = b := Nat.ne_of_gt L3; have nm3 : ¬ b = w3.heap.size := Nat.ne_of_lt L3; (try (have hq : Ext (World.alloc wr.drew (.cells #[.int .i64 0, .int .i64 0, .string ⟨#[]⟩] 26)) w3 := (by with_reducible exact e3); have ZA := Lib.hid (ZV.new wr.heap.size rfl hq); clear hq)); (try (have hq : Ext (World.drew (World.alloc wr (.cells #[.int .i64 0, .int .i64 0, .string ⟨#[]⟩] 26))) w3 := (by with_reducible exact e3); have ZA := Lib.hid (ZV.newd wr.heap.size rfl hq); clear hq)); clear e3)
      | (go_at_call 89; refine (hG.out _ (by repeat (first | exact HG.out.ext E3.out | refine RHeapIn.ext ?_ (Ext.alloc (Ext.refl _) _)))).mono ?_; rintro e w5 ⟨rfl, e5⟩; have E5 := Lib.hid (show Ext wr w5 from Ext.trans (by repeat (first | exact E3.out | refine Ext.alloc ?_ _)) e5); have v0 := (E5.out.cells.1 _ _ hbS).trans c0; have v1 := (E5.out.cells.1 _ _ hbS).trans c1; have v2 := (E5.out.cells.1 _ _ hbS).trans c2; have L5 : b < w5.heap.size := Nat.lt_of_lt_of_le hbS E5.out.le; have nn5 : ¬ w5.heap.size = b := Nat.ne_of_gt L5; have nm5 : ¬ b = w5.heap.size := Nat.ne_of_lt L5; (try (have hz : Hid (ZV w3 wr.heap.size) := (by with_reducible assumption); have ZZ := Lib.hid (hz.out.ext e5); obtain ⟨zl, zv0, zv1, zv2, zf0, zf1, zf2⟩ := ZZ.out.facts; clear hz)); (try (have hq : Ext (World.alloc w3 (.cells #[.int .i64 0, .int .i64 0, .string ⟨#[]⟩] 26)) w5 := (by with_reducible exact e5); have ZZ := Lib.hid (ZV.new w3.heap.size rfl hq); obtain ⟨zl, zv0, zv1, zv2, zf0, zf1, zf2⟩ := ZZ.out.facts; clear hq)); clear e5))
    all_goals go_wp2_with fail
    all_goals (
     go_meet
     first
      | exact ⟨_, rfl, hlowW, Lib.hid ⟨put3 ZZ.out _ _ _, ((E5.out.setCell (Nat.le_refl _) _).setCell (Nat.le_refl _) _).setCell (Nat.le_refl _) _⟩⟩
      | exact ⟨_, rfl, Nat.le_trans hlowW E3.out.le, Lib.hid ⟨put3 ZZ.out _ _ _, ((E5.out.setCell E3.out.le _).setCell E3.out.le _).setCell E3.out.le _⟩⟩
      | exact ⟨_, rfl, Nat.le_trans hlowW E5.out.le, Lib.hid ⟨Blk.new _ _ _, E5.out.alloc _⟩⟩)
   case rest =>
   obtain ⟨bx, rfl, hbx, HYY⟩ := hcut
   obtain ⟨wy, rfl⟩ : ∃ wy : World, wy = wc := ⟨_, rfl⟩
   have HUY := Lib.hid (HUP.out.ext HYY.out.2)
   obtain ⟨f0, f1, f2, _⟩ := three HYY.out.1
   have hbxl : bx < wy.heap.size := HYY.out.1.lt
   have hby : b < wy.heap.size := Nat.lt_of_lt_of_le hbr HYY.out.2.le
   replace c0 := (HYY.out.2.cells.1 b o hbr).trans c0
   replace c1 := (HYY.out.2.cells.1 b (o + 1) hbr).trans c1
   replace c2 := (HYY.out.2.cells.1 b (o + 2) hbr).trans c2
   have nbx : ¬ RFoot g tv bx := HNF.out bx (by omega)
   have hwy1 : w.heap.size < wy.heap.size := HUY.out.res.lt
   clear HYY HUP HG hG hwr1 hbr
   go_wp2_with fail
   go_upto_region 14 with (fail)
   go_cut [14] (fun s14 wx => s14 = .string st ∧ Hid (RLpI w wx g tv H ⟨k0, n0, s0⟩ ⟨gk, gn, gs⟩ bv (setH Hc ⟨k0, n0, s0⟩ (iK i) ⟨qk, qn, qs⟩)))
   case first =>
    have hbS0 : b < wy.heap.size := hby
    have hbS1 : bx < wy.heap.size := hbxl
    go_region_held3 (fun w' => w'.cell? ⟨b, o, none⟩ = some (.int .i64 k0) ∧ w'.cell? ⟨b, o + 1, none⟩ = some (.int .i64 n0) ∧ w'.cell? ⟨b, o + 2, none⟩ = some (.string s0) ∧ w'.cell? ⟨bx, 0, none⟩ = some (.int .i64 qk) ∧ w'.cell? ⟨bx, 1, none⟩ = some (.int .i64 qn) ∧ w'.cell? ⟨bx, 2, none⟩ = some (.string qs)) (go_keep)
     (first
      | (go_at_call 116; refine (rnumber_any _ _).mono ?_; rintro e w3 ⟨rfl, e3⟩; have E3 := Lib.hid (show Ext wy w3 from (Ext.refl wy).drew.trans e3); have x00 := (E3.out.cells.1 _ _ hbS0).trans c0; have x01 := (E3.out.cells.1 _ _ hbS0).trans c1; have x02 := (E3.out.cells.1 _ _ hbS0).trans c2; have x10 := (E3.out.cells.1 _ _ hbS1).trans f0; have x11 := (E3.out.cells.1 _ _ hbS1).trans f1; have x12 := (E3.out.cells.1 _ _ hbS1).trans f2; clear e3)
      | (go_at_call 84; refine (hS.out _ (HUY.out.heap.ext E3.out)).mono ?_; rintro e w6 ⟨rfl, hh6, ht6⟩; have U6 := Lib.hid (HUY.out.set HNF.out E3.out hh6 ht6); have y00 := (ht6.cells.1 b _ (Nat.lt_of_lt_of_le hbS0 E3.out.le) nb).trans x00; have y01 := (ht6.cells.1 b _ (Nat.lt_of_lt_of_le hbS0 E3.out.le) nb).trans x01; have y02 := (ht6.cells.1 b _ (Nat.lt_of_lt_of_le hbS0 E3.out.le) nb).trans x02; have y10 := (ht6.cells.1 bx _ (Nat.lt_of_lt_of_le hbS1 E3.out.le) nbx).trans x10; have y11 := (ht6.cells.1 bx _ (Nat.lt_of_lt_of_le hbS1 E3.out.le) nbx).trans x11; have y12 := (ht6.cells.1 bx _ (Nat.lt_of_lt_of_le hbS1 E3.out.le) nbx).trans x12; clear hh6 ht6))
    all_goals go_wp2_with fail
    all_goals (
     go_meet
     first
      | exact ⟨rfl, U6⟩
      | exact ⟨rfl, Lib.hid (by rw [zset U6.out.res]; exact U6.out)⟩)
   case rest =>
   obtain ⟨rfl, HUZ⟩ := hcut
   obtain ⟨wz, rfl⟩ : ∃ wz : World, wz = wc := ⟨_, rfl⟩
   clear HUY c0 c1 c2 f0 f1 f2 hbxl hby hS hwy1
   obtain ⟨hs, hsp3⟩ := HSP2.out
   have HSP3 := Lib.hid hsp3
   subst hs
   clear HSP2 hsp3
   go_wp2_with fail
   go_roundw
   case rel => exact ⟨i + 1, k, _, rfl, HIK, by have := HIK.out; omega, by have := HIK.out; omega, HSP3, HUZ⟩
   case measure => have := HIK.out; simp [intOf]; omega
  ·have hd : decide (i < (n : Int)) = false := decide_eq_false hge
   obtain rfl : i = (n : Int) := by omega
   obtain rfl : k = 0 := by have := hik.out; omega
   have hxx : r0 = (Hc, sNone) := HSP.out.symm
   have hrr := HS0.out
   rw [hxx] at hrr
   have HV : Hid (r = .ok (setH Hc ⟨k0, n0, s0⟩ (iK n) Vl.zero) ⟨gk, gn, gs⟩) := Lib.hid hrr.1
   have hS := Lib.hid (fun (Z : World) (hZ : RHeapIn Z g tv Hc) => rset_any g tv Hc ⟨k0, n0, s0⟩ (iK n) Vl.zero Z hZ (by rw [HUP.out.len]; exact hlen) ⟨by show (-9223372036854775808 : Int) ≤ n; omega, by show (n : Int) ≤ (9223372036854775807 : Int); omega⟩ ⟨by decide, by decide⟩)
   obtain ⟨st, hst, hst0⟩ : ∃ st, setW Hc ⟨k0, n0, s0⟩ (iK n) Vl.zero = st ∧ st = sNone := ⟨_, rfl, hrr.2⟩
   rw [hst] at hS
   have HST0 := Lib.hid hst0
   clear hxx hge hik hst HSP hrr hst0
   go_wp2_with fail
   go_upto_region 17 with (fail)
   go_cut [15] (fun s15 wx => s15 = .string st ∧ Hid (RLpI w wx g tv H ⟨k0, n0, s0⟩ ⟨gk, gn, gs⟩ bv (setH Hc ⟨k0, n0, s0⟩ (iK n) Vl.zero)))
   case first =>
    have hbS0 : b < wr.heap.size := hbr
    go_region_held3 (fun w' => w'.cell? ⟨b, o, none⟩ = some (.int .i64 k0) ∧ w'.cell? ⟨b, o + 1, none⟩ = some (.int .i64 n0) ∧ w'.cell? ⟨b, o + 2, none⟩ = some (.string s0)) (go_keep)
     (first
      | (go_at_call 116; refine (rnumber_any _ _).mono ?_; rintro e w3 ⟨rfl, e3⟩; have E3 := Lib.hid (show Ext wr w3 from (Ext.refl wr).drew.trans e3); have x00 := (E3.out.cells.1 _ _ hbS0).trans c0; have x01 := (E3.out.cells.1 _ _ hbS0).trans c1; have x02 := (E3.out.cells.1 _ _ hbS0).trans c2; clear e3)
      | (go_at_call 84; refine (hS.out _ (HUP.out.heap.ext E3.out)).mono ?_; rintro e w6 ⟨rfl, hh6, ht6⟩; have U6 := Lib.hid (HUP.out.set HNF.out E3.out hh6 ht6); have y00 := (ht6.cells.1 b _ (Nat.lt_of_lt_of_le hbS0 E3.out.le) nb).trans x00; have y01 := (ht6.cells.1 b _ (Nat.lt_of_lt_of_le hbS0 E3.out.le) nb).trans x01; have y02 := (ht6.cells.1 b _ (Nat.lt_of_lt_of_le hbS0 E3.out.le) nb).trans x02; clear hh6 ht6))
    all_goals go_wp2_with fail
    all_goals (
     go_meet
     first
      | exact ⟨rfl, U6⟩
      | exact ⟨rfl, Lib.hid (by rw [zset U6.out.res]; exact U6.out)⟩)
   case rest =>
   obtain ⟨rfl, HUZ⟩ := hcut
   obtain ⟨wz, rfl⟩ : ∃ wz : World, wz = wc := ⟨_, rfl⟩
   clear HUP c0 c1 c2 hS hwr1 hbr
   obtain ⟨z0, z1, z2, y0, y1, y2⟩ := three HUZ.out.res
   have hlt2 := HUZ.out.res.lt
   obtain ⟨v0, v1, v2, _⟩ := three HUZ.out.box
   have hbv3 := HUZ.out.box.lt
   have hbv1 : ¬ bv = w.heap.size := by omega
   have hbv2 : ¬ w.heap.size = bv := by omega
   have hs := HST0.out
   subst hs
   go_wp2_with fail
   exact bodyPost_ret (v := .tuple #[(⟨gk, gn, gs⟩ : Vl).v, .string sNone]) (by simp [results, Tryz.results124, go_sem, sNone, *]) rfl (by rw [HV.out]; exact HUZ.out.done (r := Rs.ok (setH Hc ⟨k0, n0, s0⟩ (iK n) Vl.zero) ⟨gk, gn, gs⟩) rfl rfl (if_pos rfl).symm _ _ _)
set_option maxRecDepth 100000 in
set_option maxHeartbeats 8000000 in
theorem rremove2 (g : Nat) (tv : Value) (H : Hp) (w : World) (h : RHeapIn w g tv H) (hlen : H.tabs.length ≤ 9223372036854775807) (b o cap : Nat) (x0 x1 : Vl) (hof : ofW H x0 = sNone) (a0 : ArgAt w b o x0) (a1 : ArgAt w b (o + 3) x1) (hp : in64 x1.n) (nb : ¬ RFoot g tv b) :
  Calls Tryz.prog 124 #[.pointer (some ⟨g, 0, none⟩), .slice (some ⟨b, o, none⟩) 2 cap] w (RdE w g tv (removeR H x0 (some x1.n))) := by
 have HI0 := Lib.hid h
 have hT := tabOf_ok h.ok (ofW_none hof).2.2.2.2
 have HTB := Lib.hid hT
 have hl0 := (lenV_tab hof).1
 have hmost := Nat.le_trans (tlen_le hT) hT.most
 obtain ⟨n, hn⟩ : ∃ n : Nat, lenV H x0 = (n : Int) := ⟨_, hl0⟩
 have HTN : Hid (tlen (tabOf H x0) = n) := Lib.hid (by omega)
 have hn2 : n ≤ 65536 := by omega
 have HB := Lib.hid (Blk.new w 26 #[.int .i64 0, .int .i64 0, .string ⟨#[]⟩])
 have HW := Lib.hid ((Ext.refl w).alloc (.cells #[.int .i64 0, .int .i64 0, .string ⟨#[]⟩] 26))
 have HNF : Hid (∀ x, w.heap.size ≤ x → ¬ RFoot g tv x) := Lib.hid (fun x hx hf => by have := HI0.out.low hf; omega)
 have hw2 := (lenV_tab hof).2
 have cL := Lib.hid (fun (W : World) (hW : RHeapIn W g tv H) => rlen_any g tv H x0 W hW hlen)
 rw [hn, hw2] at cL
 obtain ⟨r, hr⟩ : ∃ r, removeR H x0 (some x1.n) = r := ⟨_, rfl⟩
 rw [hr]
 have HR := Lib.hid hr
 obtain ⟨k0, n0, s0⟩ := x0
 obtain ⟨k1, p, s1⟩ := x1
 have c0 := (a0.ext HW.out).k
 have c1 := (a0.ext HW.out).n
 have c2 := (a0.ext HW.out).s
 have e1 := (a1.ext HW.out).n
 obtain ⟨hp1, hp2⟩ := hp
 simp only at c0 c1 c2 e1 hp1 hp2
 have hb := a0.lt
 have HA0 := Lib.hid a0
 have HNN := Lib.hid hn
 have HOF := Lib.hid hof
 have hq : sNone.toList = [] := sNone_list
 clear hn hl0 hT hmost hr h a0 hof hw2 a1
 go_enter Tryz.func124, Tryz.ntmps124
 go_wp2_with fail
 refine (cL.out _ (HI0.out.ext HW.out)).mono ?_
 rintro e w1 ⟨rfl, e1x⟩
 have hbW0 : b < (w.alloc (.cells #[.int .i64 0, .int .i64 0, .string ⟨#[]⟩] 26)).heap.size := Nat.lt_of_lt_of_le hb HW.out.le
 replace c0 := (e1x.cells.1 b o hbW0).trans c0
 replace c1 := (e1x.cells.1 b (o + 1) hbW0).trans c1
 replace c2 := (e1x.cells.1 b (o + 2) hbW0).trans c2
 replace e1 := (e1x.cells.1 b (o + 3 + 1) hbW0).trans e1
 replace HB := Lib.hid (HB.out.ext e1x)
 replace HW := Lib.hid (HW.out.trans e1x)
 clear e1x cL hbW0
 have hbW : b < w1.heap.size := Nat.lt_of_lt_of_le hb HW.out.le
 have hwW : w.heap.size < w1.heap.size := HB.out.lt
 have hn0 : (0 : Int) ≤ (n : Int) := by omega
 have hnI : (n : Int) ≤ 65536 := by omega
 by_cases hrn : ¬ (1 ≤ p ∧ p ≤ (n : Int))
 ·have HV : Hid (r = Rs.no H sRange) := Lib.hid (by
   rw [← HR.out]
   unfold removeR
   simp only [HNN.out]
   rw [if_neg (by simp), if_pos (by simp only [Option.getD_some]; omega)])
  have tt : decide (p < 1) = true ∨ (decide (p < 1) = false ∧ decide ((n : Int) < p) = true) := by
   simp only [decide_eq_true_eq, decide_eq_false_iff_not]; omega
  clear hrn
  rcases tt with t1 | ⟨t1, t2⟩
  all_goals (
   obtain ⟨z0, z1, z2, y0, y1, y2⟩ := three HB.out
   have hlt2 := HB.out.lt
   go_wp2_with fail
   exact bodyPost_ret (v := .tuple #[Vl.zero.v, .string sRange]) (by simp [results, Tryz.results124, go_sem, Vl.zero, sRange, *]) rfl (by rw [HV.out]; exact ⟨by rw [if_neg (show ¬ (Rs.no H sRange).w = sNone from by show ¬ sRange = sNone; decide)]; rfl, (RS.of_ext HI0.out (by repeat (first | exact HW.out | refine Ext.alloc ?_ _ | refine Ext.setCell ?_ (by simp <;> omega) _))).step⟩))
 obtain ⟨hr1, hr2⟩ := Classical.not_not.1 hrn
 clear hrn
 have t1 : decide (p < 1) = false := decide_eq_false (by omega)
 have t2 : decide ((n : Int) < p) = false := decide_eq_false (by omega)
 have hG := Lib.hid (fun (Z : World) (hZ : RHeapIn Z g tv H) => rget_any g tv H ⟨k0, n0, s0⟩ (iK p) Z hZ hlen)
 rw [getW_int HOF.out] at hG
 obtain ⟨gv, hgv⟩ : ∃ gv, getV H ⟨k0, n0, s0⟩ (iK p) = gv := ⟨_, rfl⟩
 rw [hgv] at hG
 have HGV := Lib.hid hgv
 obtain ⟨gk, gn, gs⟩ := gv
 have HIX := Lib.hid (HI0.out.ext HW.out)
 clear hgv
 go_wp2_with fail
 go_upto_region 9 with (fail)
 go_cut [9] (fun s9 wx => ∃ bv : Nat, s9 = .pointer (some ⟨bv, 0, none⟩) ∧ (w.heap.size + 1) ≤ bv ∧ Hid (Blk wx bv 26 #[.int .i64 gk, .int .i64 gn, .string gs] ∧ Ext w1 wx))
 case first =>
  have hlowW : (w.heap.size + 1) ≤ w1.heap.size := by omega
  have hnb : ¬ w1.heap.size = b := by omega
  have hnb2 : ¬ b = w1.heap.size := by omega
  have hbS : b < w1.heap.size := by omega
  go_region_held3 (fun w' => w'.cell? ⟨b, o, none⟩ = some (.int .i64 k0) ∧ w'.cell? ⟨b, o + 1, none⟩ = some (.int .i64 n0) ∧ w'.cell? ⟨b, o + 2, none⟩ = some (.string s0)) (go_keep)
   (first
    | (go_at_call 116; refine (rnumber_any _ _).mono ?_; rintro e w3 ⟨rfl, e3⟩; have E3 := Lib.hid (show Ext w1 w3 from Ext.trans (by repeat (first | exact Ext.refl _ | refine Ext.drew ?_ | refine Ext.alloc ?_ _)) e3); have x0 := (E3.out.cells.1 _ _ hbS).trans c0; have x1 := (E3.out.cells.1 _ _ hbS).trans c1; have x2 := (E3.out.cells.1 _ _ hbS).trans c2; have L3 : b < w3.heap.size := Nat.lt_of_lt_of_le hbS E3.out.le; have nn3 : ¬ w3.heap.size = b := Nat.ne_of_gt L3; have nm3 : ¬ b = w3.heap.size := Nat.ne_of_lt L3; (try (have hq : Ext (World.alloc w1.drew (.cells #[.int .i64 0, .int .i64 0, .string ⟨#[]⟩] 26)) w3 := (by with_reducible exact e3); have ZA := Lib.hid (ZV.new w1.heap.size rfl hq); clear hq)); (try (have hq : Ext (World.drew (World.alloc w1 (.cells #[.int .i64 0, .int .i64 0, .string ⟨#[]⟩] 26))) w3 := (by with_reducible exact e3); have ZA := Lib.hid (ZV.newd w1.heap.size rfl hq); clear hq)); clear e3)
    | (go_at_call 89; refine (hG.out _ (by repeat (first | exact HIX.out.ext E3.out | refine RHeapIn.ext ?_ (Ext.alloc (Ext.refl _) _)))).mono ?_; rintro e w5 ⟨rfl, e5⟩; have E5 := Lib.hid (show Ext w1 w5 from Ext.trans (by repeat (first | exact E3.out | refine Ext.alloc ?_ _)) e5); have v0 := (E5.out.cells.1 _ _ hbS).trans c0; have v1 := (E5.out.cells.1 _ _ hbS).trans c1; have v2 := (E5.out.cells.1 _ _ hbS).trans c2; have L5 : b < w5.heap.size := Nat.lt_of_lt_of_le hbS E5.out.le; have nn5 : ¬ w5.heap.size = b := Nat.ne_of_gt L5; have nm5 : ¬ b = w5.heap.size := Nat.ne_of_lt L5; (try (have hz : Hid (ZV w3 w1.heap.size) := (by with_reducible assumption); have ZZ := Lib.hid (hz.out.ext e5); obtain ⟨zl, zv0, zv1, zv2, zf0, zf1, zf2⟩ := ZZ.out.facts; clear hz)); (try (have hq : Ext (World.alloc w3 (.cells #[.int .i64 0, .int .i64 0, .string ⟨#[]⟩] 26)) w5 := (by with_reducible exact e5); have ZZ := Lib.hid (ZV.new w3.heap.size rfl hq); obtain ⟨zl, zv0, zv1, zv2, zf0, zf1, zf2⟩ := ZZ.out.facts; clear hq)); clear e5))
  all_goals go_wp2_with fail
  all_goals (
   go_meet
   first
    | exact ⟨_, rfl, hlowW, Lib.hid ⟨put3 ZZ.out _ _ _, ((E5.out.setCell (Nat.le_refl _) _).setCell (Nat.le_refl _) _).setCell (Nat.le_refl _) _⟩⟩
    | exact ⟨_, rfl, Nat.le_trans hlowW E3.out.le, Lib.hid ⟨put3 ZZ.out _ _ _, ((E5.out.setCell E3.out.le _).setCell E3.out.le _).setCell E3.out.le _⟩⟩
    | exact ⟨_, rfl, Nat.le_trans hlowW E5.out.le, Lib.hid ⟨Blk.new _ _ _, E5.out.alloc _⟩⟩)
 case rest =>
 obtain ⟨bv, rfl, hbv, HXX⟩ := hcut
 obtain ⟨wx, rfl⟩ : ∃ wx : World, wx = wc := ⟨_, rfl⟩
 have EX := Lib.hid (HW.out.trans HXX.out.2)
 have HU0 : Hid (RLpI w wx g tv H ⟨k0, n0, s0⟩ ⟨gk, gn, gs⟩ bv H) := Lib.hid ⟨HI0.out.ext EX.out, .of_ext EX.out, rfl, HOF.out, hbv, HXX.out.1, HB.out.ext HXX.out.2⟩
 obtain ⟨r0, hr0⟩ : ∃ r0, dnP ⟨k0, n0, s0⟩ (n : Int) ((n : Int) - p).toNat H = r0 := ⟨_, rfl⟩
 have hfin := dn_get ⟨k0, n0, s0⟩ (n : Int) (by omega) ((n : Int) - p).toNat H HI0.out.ok HOF.out (by omega) (fun i h3 h4 => by have h5 := tlen_some HTB.out i (by omega) (by rw [HTN.out]; omega); exact h5)
 have hf0 := hfin.1
 rw [hr0] at hf0
 have HF0 := Lib.hid hf0
 have HS0 : Hid (r = .ok (setH r0.1 ⟨k0, n0, s0⟩ (iK n) Vl.zero) ⟨gk, gn, gs⟩ ∧ setW r0.1 ⟨k0, n0, s0⟩ (iK n) Vl.zero = sNone) := Lib.hid (by
  have hof0 : ofW r0.1 ⟨k0, n0, s0⟩ = sNone := by rw [← hr0]; exact hfin.2.2.1
  have hw0 : setW r0.1 ⟨k0, n0, s0⟩ (iK n) Vl.zero = sNone := setW_old hof0 ck_zero (.inr rfl)
  refine ⟨?_, hw0⟩
  rw [← HR.out]
  unfold removeR
  simp only [HNN.out, Option.getD_some, Option.getD_none]
  rw [if_neg (by rintro ⟨h1, h2⟩; first | omega | cases h1), if_neg (by omega), hr0, if_pos hf0, if_pos hw0, HGV.out])
 have HX0 := Lib.hid hr0
 clear HXX HB HW hbW hwW hr0 hfin hf0 hG HIX c0 c1 c2
 go_wp2_with fail
 go_loopw [11] (fun s11 wr => ∃ (i : Int) (k : Nat) (Hc : Hp), s11 = .int .i64 i ∧ Hid (i = n - k) ∧ p ≤ i ∧ i ≤ (n : Int) ∧ Hid (dnP ⟨k0, n0, s0⟩ (n : Int) k Hc = r0) ∧ Hid (RLpI w wr g tv H ⟨k0, n0, s0⟩ ⟨gk, gn, gs⟩ bv Hc)) (fun s11 _ => ((n : Int) - intOf s11).toNat)
 case atStart => exact ⟨p, _, H, rfl, Lib.hid (by omega), by omega, by omega, HX0, HU0⟩
 case round =>
  obtain ⟨i, k, Hc, rfl, hik, hi1, hi2, HSP, HUP⟩ := hrel
  clear HU0 HX0 e1
  have hbr : b < wr.heap.size := Nat.lt_of_lt_of_le hb HUP.out.touch.size
  have hwr1 : w.heap.size < wr.heap.size := HUP.out.res.lt
  have aa := HA0.out.of (HUP.out.touch.block b hb nb)
  have c0 := aa.k
  have c1 := aa.n
  have c2 := aa.s
  simp only at c0 c1 c2
  clear aa
  by_cases hge : i < (n : Int)
  ·have hd : decide (i < (n : Int)) = true := decide_eq_true hge
   obtain ⟨k, rfl⟩ : ∃ k', k = k' + 1 := ⟨k - 1, by have := hik.out; omega⟩
   have HIK : Hid (i + 1 = n - k) := Lib.hid (by have := hik.out; omega)
   have hG := Lib.hid (fun (Z : World) (hZ : RHeapIn Z g tv Hc) => rget_any g tv Hc ⟨k0, n0, s0⟩ (iK (i + 1)) Z hZ (by rw [HUP.out.len]; exact hlen))
   rw [getW_int HUP.out.of] at hG
   have hS := Lib.hid (fun (Z : World) (hZ : RHeapIn Z g tv Hc) => rset_any g tv Hc ⟨k0, n0, s0⟩ (iK i) (getV Hc ⟨k0, n0, s0⟩ (iK (i + 1))) Z hZ (by rw [HUP.out.len]; exact hlen) ⟨by show (-9223372036854775808 : Int) ≤ i; omega, by show i ≤ (9223372036854775807 : Int); omega⟩ (getV_ok HUP.out.heap.ok _ _).1)
   have HG := Lib.hid HUP.out.heap
   have HSP2 : Hid (setW Hc ⟨k0, n0, s0⟩ (iK i) (getV Hc ⟨k0, n0, s0⟩ (iK (i + 1))) = sNone ∧ dnP ⟨k0, n0, s0⟩ (n : Int) k (setH Hc ⟨k0, n0, s0⟩ (iK i) (getV Hc ⟨k0, n0, s0⟩ (iK (i + 1)))) = r0) := Lib.hid (by
    have h9 := HSP.out
    have e9 : (n : Int) - (k : Int) - 1 = i := by have := HIK.out; omega
    have e8 : (n : Int) - (k : Int) = i + 1 := by have := HIK.out; omega
    unfold dnP at h9
    rw [e9, e8] at h9
    by_cases hs : setW Hc ⟨k0, n0, s0⟩ (iK i) (getV Hc ⟨k0, n0, s0⟩ (iK (i + 1))) = sNone
    ·rw [if_pos hs] at h9
     exact ⟨hs, h9⟩
    ·rw [if_neg hs] at h9
     have := HF0.out
     rw [← h9] at this
     exact absurd this hs)
   obtain ⟨qv, hqv⟩ : ∃ qv, getV Hc ⟨k0, n0, s0⟩ (iK (i + 1)) = qv := ⟨_, rfl⟩
   rw [hqv] at hG hS HSP2
   obtain ⟨qk, qn, qs⟩ := qv
   obtain ⟨st, hst⟩ : ∃ st, setW Hc ⟨k0, n0, s0⟩ (iK i) ⟨qk, qn, qs⟩ = st := ⟨_, rfl⟩
   rw [hst] at hS HSP2
   have hwr : IntKind.i64.wrap (i + 1) = i + 1 := IntWalk.i64_in _ (by omega)
   have hib : i + 1 ≤ 9223372036854775807 := by omega
   clear hqv hst hge hik HSP
   go_wp2_with fail
   go_upto_region 13 with (fail)
   go_cut [12] (fun s12 wx => ∃ bv : Nat, s12 = .pointer (some ⟨bv, 0, none⟩) ∧ (w.heap.size + 1) ≤ bv ∧ Hid (Blk wx bv 26 #[.int .i64 qk, .int .i64 qn, .string qs] ∧ Ext wr wx))
   case first =>
    have hlowW : (w.heap.size + 1) ≤ wr.heap.size := by omega
    have hnb : ¬ wr.heap.size = b := by omega
    have hnb2 : ¬ b = wr.heap.size := by omega
    have hbS : b < wr.heap.size := by omega
    go_region_held3 (fun w' => w'.cell? ⟨b, o, none⟩ = some (.int .i64 k0) ∧ w'.cell? ⟨b, o + 1, none⟩ = some (.int .i64 n0) ∧ w'.cell? ⟨b, o + 2, none⟩ = some (.string s0)) (go_keep)
     (first
      | (go_at_call 116; refine (rnumber_any _ _).mono ?_; rintro e w3 ⟨rfl, e3⟩; have E3 := Lib.hid (show Ext wr w3 from Ext.trans (by repeat (first | exact Ext.refl _ | refine Ext.drew ?_ | refine Ext.alloc ?_ _)) e3); have x0 := (E3.out.cells.1 _ _ hbS).trans c0; have x1 := (E3.out.cells.1 _ _ hbS).trans c1; have x2 := (E3.out.cells.1 _ _ hbS).trans c2; have L3 : b < w3.heap.size := Nat.lt_of_lt_of_le hbS E3.out.le; have nn3 : ¬ w3.heap.size = b := Nat.ne_of_gt L3; have nm3 : ¬ b = w3.heap.size := Nat.ne_of_lt L3; (try (have hq : Ext (World.alloc wr.drew (.cells #[.int .i64 0, .int .i64 0, .string ⟨#[]⟩] 26)) w3 := (by with_reducible exact e3); have ZA := Lib.hid (ZV.new wr.heap.size rfl hq); clear hq)); (try (have hq : Ext (World.drew (World.alloc wr (.cells #[.int .i64 0, .int .i64 0, .string ⟨#[]⟩] 26))) w3 := (by with_reducible exact e3); have ZA := Lib.hid (ZV.newd wr.heap.size rfl hq); clear hq)); clear e3)
      | (go_at_call 89; refine (hG.out _ (by repeat (first | exact HG.out.ext E3.out | refine RHeapIn.ext ?_ (Ext.alloc (Ext.refl _) _)))).mono ?_; rintro e w5 ⟨rfl, e5⟩; have E5 := Lib.hid (show Ext wr w5 from Ext.trans (by repeat (first | exact E3.out | refine Ext.alloc ?_ _)) e5); have v0 := (E5.out.cells.1 _ _ hbS).trans c0; have v1 := (E5.out.cells.1 _ _ hbS).trans c1; have v2 := (E5.out.cells.1 _ _ hbS).trans c2; have L5 : b < w5.heap.size := Nat.lt_of_lt_of_le hbS E5.out.le; have nn5 : ¬ w5.heap.size = b := Nat.ne_of_gt L5; have nm5 : ¬ b = w5.heap.size := Nat.ne_of_lt L5; (try (have hz : Hid (ZV w3 wr.heap.size) := (by with_reducible assumption); have ZZ := Lib.hid (hz.out.ext e5); obtain ⟨zl, zv0, zv1, zv2, zf0, zf1, zf2⟩ := ZZ.out.facts; clear hz)); (try (have hq : Ext (World.alloc w3 (.cells #[.int .i64 0, .int .i64 0, .string ⟨#[]⟩] 26)) w5 := (by with_reducible exact e5); have ZZ := Lib.hid (ZV.new w3.heap.size rfl hq); obtain ⟨zl, zv0, zv1, zv2, zf0, zf1, zf2⟩ := ZZ.out.facts; clear hq)); clear e5))
    all_goals go_wp2_with fail
    all_goals (
     go_meet
     first
      | exact ⟨_, rfl, hlowW, Lib.hid ⟨put3 ZZ.out _ _ _, ((E5.out.setCell (Nat.le_refl _) _).setCell (Nat.le_refl _) _).setCell (Nat.le_refl _) _⟩⟩
      | exact ⟨_, rfl, Nat.le_trans hlowW E3.out.le, Lib.hid ⟨put3 ZZ.out _ _ _, ((E5.out.setCell E3.out.le _).setCell E3.out.le _).setCell E3.out.le _⟩⟩
      | exact ⟨_, rfl, Nat.le_trans hlowW E5.out.le, Lib.hid ⟨Blk.new _ _ _, E5.out.alloc _⟩⟩)
   case rest =>
   obtain ⟨bx, rfl, hbx, HYY⟩ := hcut
   obtain ⟨wy, rfl⟩ : ∃ wy : World, wy = wc := ⟨_, rfl⟩
   have HUY := Lib.hid (HUP.out.ext HYY.out.2)
   obtain ⟨f0, f1, f2, _⟩ := three HYY.out.1
   have hbxl : bx < wy.heap.size := HYY.out.1.lt
   have hby : b < wy.heap.size := Nat.lt_of_lt_of_le hbr HYY.out.2.le
   replace c0 := (HYY.out.2.cells.1 b o hbr).trans c0
   replace c1 := (HYY.out.2.cells.1 b (o + 1) hbr).trans c1
   replace c2 := (HYY.out.2.cells.1 b (o + 2) hbr).trans c2
   have nbx : ¬ RFoot g tv bx := HNF.out bx (by omega)
   have hwy1 : w.heap.size < wy.heap.size := HUY.out.res.lt
   clear HYY HUP HG hG hwr1 hbr
   go_wp2_with fail
   go_upto_region 14 with (fail)
   go_cut [14] (fun s14 wx => s14 = .string st ∧ Hid (RLpI w wx g tv H ⟨k0, n0, s0⟩ ⟨gk, gn, gs⟩ bv (setH Hc ⟨k0, n0, s0⟩ (iK i) ⟨qk, qn, qs⟩)))
   case first =>
    have hbS0 : b < wy.heap.size := hby
    have hbS1 : bx < wy.heap.size := hbxl
    go_region_held3 (fun w' => w'.cell? ⟨b, o, none⟩ = some (.int .i64 k0) ∧ w'.cell? ⟨b, o + 1, none⟩ = some (.int .i64 n0) ∧ w'.cell? ⟨b, o + 2, none⟩ = some (.string s0) ∧ w'.cell? ⟨bx, 0, none⟩ = some (.int .i64 qk) ∧ w'.cell? ⟨bx, 1, none⟩ = some (.int .i64 qn) ∧ w'.cell? ⟨bx, 2, none⟩ = some (.string qs)) (go_keep)
     (first
      | (go_at_call 116; refine (rnumber_any _ _).mono ?_; rintro e w3 ⟨rfl, e3⟩; have E3 := Lib.hid (show Ext wy w3 from (Ext.refl wy).drew.trans e3); have x00 := (E3.out.cells.1 _ _ hbS0).trans c0; have x01 := (E3.out.cells.1 _ _ hbS0).trans c1; have x02 := (E3.out.cells.1 _ _ hbS0).trans c2; have x10 := (E3.out.cells.1 _ _ hbS1).trans f0; have x11 := (E3.out.cells.1 _ _ hbS1).trans f1; have x12 := (E3.out.cells.1 _ _ hbS1).trans f2; clear e3)
      | (go_at_call 84; refine (hS.out _ (HUY.out.heap.ext E3.out)).mono ?_; rintro e w6 ⟨rfl, hh6, ht6⟩; have U6 := Lib.hid (HUY.out.set HNF.out E3.out hh6 ht6); have y00 := (ht6.cells.1 b _ (Nat.lt_of_lt_of_le hbS0 E3.out.le) nb).trans x00; have y01 := (ht6.cells.1 b _ (Nat.lt_of_lt_of_le hbS0 E3.out.le) nb).trans x01; have y02 := (ht6.cells.1 b _ (Nat.lt_of_lt_of_le hbS0 E3.out.le) nb).trans x02; have y10 := (ht6.cells.1 bx _ (Nat.lt_of_lt_of_le hbS1 E3.out.le) nbx).trans x10; have y11 := (ht6.cells.1 bx _ (Nat.lt_of_lt_of_le hbS1 E3.out.le) nbx).trans x11; have y12 := (ht6.cells.1 bx _ (Nat.lt_of_lt_of_le hbS1 E3.out.le) nbx).trans x12; clear hh6 ht6))
    all_goals go_wp2_with fail
    all_goals (
     go_meet
     first
      | exact ⟨rfl, U6⟩
      | exact ⟨rfl, Lib.hid (by rw [zset U6.out.res]; exact U6.out)⟩)
   case rest =>
   obtain ⟨rfl, HUZ⟩ := hcut
   obtain ⟨wz, rfl⟩ : ∃ wz : World, wz = wc := ⟨_, rfl⟩
   clear HUY c0 c1 c2 f0 f1 f2 hbxl hby hS hwy1
   obtain ⟨hs, hsp3⟩ := HSP2.out
   have HSP3 := Lib.hid hsp3
   subst hs
   clear HSP2 hsp3
   go_wp2_with fail
   go_roundw
   case rel => exact ⟨i + 1, k, _, rfl, HIK, by have := HIK.out; omega, by have := HIK.out; omega, HSP3, HUZ⟩
   case measure => have := HIK.out; simp [intOf]; omega
  ·have hd : decide (i < (n : Int)) = false := decide_eq_false hge
   obtain rfl : i = (n : Int) := by omega
   obtain rfl : k = 0 := by have := hik.out; omega
   have hxx : r0 = (Hc, sNone) := HSP.out.symm
   have hrr := HS0.out
   rw [hxx] at hrr
   have HV : Hid (r = .ok (setH Hc ⟨k0, n0, s0⟩ (iK n) Vl.zero) ⟨gk, gn, gs⟩) := Lib.hid hrr.1
   have hS := Lib.hid (fun (Z : World) (hZ : RHeapIn Z g tv Hc) => rset_any g tv Hc ⟨k0, n0, s0⟩ (iK n) Vl.zero Z hZ (by rw [HUP.out.len]; exact hlen) ⟨by show (-9223372036854775808 : Int) ≤ n; omega, by show (n : Int) ≤ (9223372036854775807 : Int); omega⟩ ⟨by decide, by decide⟩)
   obtain ⟨st, hst, hst0⟩ : ∃ st, setW Hc ⟨k0, n0, s0⟩ (iK n) Vl.zero = st ∧ st = sNone := ⟨_, rfl, hrr.2⟩
   rw [hst] at hS
   have HST0 := Lib.hid hst0
   clear hxx hge hik hst HSP hrr hst0
   go_wp2_with fail
   go_upto_region 17 with (fail)
   go_cut [15] (fun s15 wx => s15 = .string st ∧ Hid (RLpI w wx g tv H ⟨k0, n0, s0⟩ ⟨gk, gn, gs⟩ bv (setH Hc ⟨k0, n0, s0⟩ (iK n) Vl.zero)))
   case first =>
    have hbS0 : b < wr.heap.size := hbr
    go_region_held3 (fun w' => w'.cell? ⟨b, o, none⟩ = some (.int .i64 k0) ∧ w'.cell? ⟨b, o + 1, none⟩ = some (.int .i64 n0) ∧ w'.cell? ⟨b, o + 2, none⟩ = some (.string s0)) (go_keep)
     (first
      | (go_at_call 116; refine (rnumber_any _ _).mono ?_; rintro e w3 ⟨rfl, e3⟩; have E3 := Lib.hid (show Ext wr w3 from (Ext.refl wr).drew.trans e3); have x00 := (E3.out.cells.1 _ _ hbS0).trans c0; have x01 := (E3.out.cells.1 _ _ hbS0).trans c1; have x02 := (E3.out.cells.1 _ _ hbS0).trans c2; clear e3)
      | (go_at_call 84; refine (hS.out _ (HUP.out.heap.ext E3.out)).mono ?_; rintro e w6 ⟨rfl, hh6, ht6⟩; have U6 := Lib.hid (HUP.out.set HNF.out E3.out hh6 ht6); have y00 := (ht6.cells.1 b _ (Nat.lt_of_lt_of_le hbS0 E3.out.le) nb).trans x00; have y01 := (ht6.cells.1 b _ (Nat.lt_of_lt_of_le hbS0 E3.out.le) nb).trans x01; have y02 := (ht6.cells.1 b _ (Nat.lt_of_lt_of_le hbS0 E3.out.le) nb).trans x02; clear hh6 ht6))
    all_goals go_wp2_with fail
    all_goals (
     go_meet
     first
      | exact ⟨rfl, U6⟩
      | exact ⟨rfl, Lib.hid (by rw [zset U6.out.res]; exact U6.out)⟩)
   case rest =>
   obtain ⟨rfl, HUZ⟩ := hcut
   obtain ⟨wz, rfl⟩ : ∃ wz : World, wz = wc := ⟨_, rfl⟩
   clear HUP c0 c1 c2 hS hwr1 hbr
   obtain ⟨z0, z1, z2, y0, y1, y2⟩ := three HUZ.out.res
   have hlt2 := HUZ.out.res.lt
   obtain ⟨v0, v1, v2, _⟩ := three HUZ.out.box
   have hbv3 := HUZ.out.box.lt
   have hbv1 : ¬ bv = w.heap.size := by omega
   have hbv2 : ¬ w.heap.size = bv := by omega
   have hs := HST0.out
   subst hs
   go_wp2_with fail
   exact bodyPost_ret (v := .tuple #[(⟨gk, gn, gs⟩ : Vl).v, .string sNone]) (by simp [results, Tryz.results124, go_sem, sNone, *]) rfl (by rw [HV.out]; exact HUZ.out.done (r := Rs.ok (setH Hc ⟨k0, n0, s0⟩ (iK n) Vl.zero) ⟨gk, gn, gs⟩) rfl rfl (if_pos rfl).symm _ _ _)
end Go.Proofs.YtfagldjhibdfhaaGreatDoor
namespace Go.Proofs.YtfagldjhibdfhaaGreatDoor
open Go.RowKit
set_option linter.unusedVariables false
set_option linter.unusedSimpArgs false

theorem rtable_step (g : Nat) (tv : Value) (H : Hp) (w : World) (h : RHeapIn w g tv H) (hn : H.tabs.length ≤ 1000000000000) :
  Calls Tryz.prog 83 #[.pointer (some ⟨g, 0, none⟩)] w fun e w' => e = .returned (.tuple #[(tabV H).v, .string (tabW H)]) ∧ ∃ tv', RS w g tv w' tv' (tabH H) := by
 by_cases hm : 1 ≤ H.cells - H.spent
 ·refine (rtable_yes g tv H w h hm hn).mono ?_
  rintro e w' ⟨rfl, tv', h1, h2, h3⟩
  unfold tabV tabW tabH
  rw [if_pos hm, if_pos hm, if_pos hm]
  exact ⟨rfl, tv', h1, h2, h3⟩
 ·refine (rtable_no g tv H w h hm).mono ?_
  rintro e w' ⟨rfl, h1, h2⟩
  unfold tabV tabW tabH
  rw [if_neg hm, if_neg hm, if_neg hm]
  exact ⟨rfl, tv, .of_touch h1 h2⟩
structure RKyI (w wr : World) (g : Nat) (tv tv' : Value) (B N : Nat) (t : Vl) (ks : List Vl) (bv : Nat) (vr : Value) (Hc : Hp) : Prop where
 rs : RS w g tv wr tv' Hc
 len : Hc.tabs.length = N
 box : Blk wr bv 26 #[.int .i64 t.k, .int .i64 t.n, .string t.s]
 res : Blk wr B 26 zcells
 row : RowAt wr vr ks
 n1 : ¬ RFoot g tv' bv
 n2 : ¬ RFoot g tv' B
 n3 : ∀ k, vr.ownBlock = some k → ¬ RFoot g tv' k
theorem RKyI.set {w wr Z w' : World} {g : Nat} {tv tv' : Value} {B N : Nat} {t k x : Vl} {ks : List Vl} {bv : Nat} {vr : Value} {Hc : Hp} (h : RKyI w wr g tv tv' B N t ks bv vr Hc)
  (hZ : Ext wr Z) (hh : RHeapIn w' g tv' (setH Hc t k x)) (ht : Touch (RFoot g tv') Z w') : RKyI w w' g tv tv' B N t ks bv vr (setH Hc t k x) := by
 have ht2 := Touch.pre hZ ht
 exact ⟨h.rs.trans (.of_touch hh ht2), by rw [setH_len]; exact h.len, (ht2.block _ h.box.lt h.n1).trans h.box, (ht2.block _ h.res.lt h.n2).trans h.res, h.row.of_heap fun k hk => ht2.block k (h.row.lt k hk).1 (h.n3 k hk), h.n1, h.n2, h.n3⟩
theorem put_step (t x : Vl) (ks : List Vl) (i : Nat) (Hc : Hp) (hx : ks[i]? = some x) : putP t (ks.drop i) ((i : Int) + 1) Hc = if setW Hc t (iK ((i : Int) + 1)) x = sNone then putP t (ks.drop (i + 1)) (((i + 1 : Nat) : Int) + 1) (setH Hc t (iK ((i : Int) + 1)) x) else (Hc, setW Hc t (iK ((i : Int) + 1)) x) := by
 obtain ⟨hl, he⟩ := List.getElem?_eq_some_iff.1 hx
 rw [List.drop_eq_getElem_cons hl, he]
 have e : putP t (x :: ks.drop (i + 1)) ((i : Int) + 1) Hc = if setW Hc t (iK ((i : Int) + 1)) x = sNone then putP t (ks.drop (i + 1)) ((i : Int) + 1 + 1) (setH Hc t (iK ((i : Int) + 1)) x) else (Hc, setW Hc t (iK ((i : Int) + 1)) x) := rfl
 rw [e, show (((i + 1 : Nat) : Int) + 1) = (i : Int) + 1 + 1 from by omega]
set_option maxRecDepth 100000 in
set_option maxHeartbeats 8000000 in
theorem rkeys_do (g : Nat) (tv : Value) (H : Hp) (w : World) (h : RHeapIn w g tv H) (hlen : H.tabs.length ≤ 1000000000) (x0 : Vl) (hof : ofW H x0 = sNone) :
  Calls Tryz.prog 125 #[.pointer (some ⟨g, 0, none⟩), x0.v] w (RdE w g tv (keyTR H x0)) := by
 have HI0 := Lib.hid h
 have hT := tabOf_ok h.ok (ofW_none hof).2.2.2.2
 have hks : keysV H x0 = keysL (tabOf H x0) := by unfold keysV; rw [if_pos hof]
 obtain ⟨ks, hkk⟩ : ∃ ks, keysL (tabOf H x0) = ks := ⟨_, rfl⟩
 have hkl : ks.length ≤ 65536 := by rw [← hkk, keysL_len hT]; exact hT.most
 have HKO : Hid (∀ k ∈ ks, in64 k.n) := Lib.hid (fun k hk => (keysL_ok hT k (by rw [hkk]; exact hk)).num)
 obtain ⟨r, hr⟩ : ∃ r, keyTR H x0 = r := ⟨_, rfl⟩
 rw [hr]
 have HR : Hid (r = if tabW H = sNone then (if (putP (tabV H) ks 1 (tabH H)).2 = sNone then .ok (putP (tabV H) ks 1 (tabH H)).1 (tabV H) else .no (putP (tabV H) ks 1 (tabH H)).1 (putP (tabV H) ks 1 (tabH H)).2) else .no H (tabW H)) := Lib.hid (by
  rw [← hr]
  unfold keyTR
  rw [if_pos hof, hks, hkk])
 have cK := Lib.hid (fun (W : World) (hW : RHeapIn W g tv H) => hkk ▸ rkeys_tab g tv H x0 W hW (by omega) hof)
 obtain ⟨k0, n0, s0⟩ := x0
 have HB := Lib.hid (show Blk ((w.alloc (.cells #[.int .i64 k0, .int .i64 n0, .string s0] 26)).alloc (.cells #[.int .i64 0, .int .i64 0, .string ⟨#[]⟩] 26)) (w.heap.size + 1) 26 #[.int .i64 0, .int .i64 0, .string ⟨#[]⟩] from by
  have := Blk.new (w.alloc (.cells #[.int .i64 k0, .int .i64 n0, .string s0] 26)) 26 #[.int .i64 0, .int .i64 0, .string ⟨#[]⟩]
  rwa [size_alloc] at this)
 have HW := Lib.hid (((Ext.refl w).alloc (.cells #[.int .i64 k0, .int .i64 n0, .string s0] 26)).alloc (.cells #[.int .i64 0, .int .i64 0, .string ⟨#[]⟩] 26))
 have hq : sNone.toList = [] := sNone_list
 have hq2 := sNone_empty
 clear hr h hks hkk hT hof
 go_enter Tryz.func125, Tryz.ntmps125
 go_wp2_with fail
 refine (cK.out _ (HI0.out.ext HW.out)).mono ?_
 rintro e w1 ⟨vr, rfl, hrow, e1⟩
 have hsz1 : w.heap.size + 2 ≤ w1.heap.size := by have := e1.le; simpa using this
 have HRB : Hid (∀ k, vr.ownBlock = some k → w.heap.size + 2 ≤ k ∧ k < w1.heap.size) := Lib.hid (fun k hk => ⟨by have := (hrow.lt k hk).1; simpa using this, (hrow.at0.lt k hk).1⟩)
 have HRW := Lib.hid hrow.at0
 obtain ⟨qv, cv, hvr⟩ := hrow.at0.slice
 subst hvr
 have W1 := Lib.hid (HW.out.trans e1)
 have B1 := Lib.hid (HB.out.ext e1)
 have HI1 := Lib.hid (HI0.out.ext W1.out)
 clear hrow e1 cK HW HB
 go_wp2_with fail
 refine (rtable_step g tv H _ HI1.out (by omega)).mono ?_
 rintro e w3 ⟨rfl, tv', s3⟩
 have S3 := Lib.hid (RS.pre W1.out s3)
 have NB : Hid (¬ RFoot g tv (w.heap.size + 1)) := Lib.hid (fun hf => by have := HI0.out.low hf; omega)
 have N2 : Hid (¬ RFoot g tv' (w.heap.size + 1)) := Lib.hid (s3.notin B1.out.lt NB.out)
 have B3 : Hid (Blk w3 (w.heap.size + 1) 26 zcells) := Lib.hid ((s3.touch.block _ B1.out.lt NB.out).trans B1.out)
 have NK : Hid (∀ k, (Value.slice qv ks.length cv).ownBlock = some k → ¬ RFoot g tv k) := Lib.hid (fun k hk hf => by have h1 := HI0.out.low hf; have h2 := (HRB.out k hk).1; omega)
 have N3 : Hid (∀ k, (Value.slice qv ks.length cv).ownBlock = some k → ¬ RFoot g tv' k) := Lib.hid (fun k hk => s3.notin (HRB.out k hk).2 (NK.out k hk))
 have R3 : Hid (RowAt w3 (.slice qv ks.length cv) ks) := Lib.hid (HRW.out.of_heap fun k hk => s3.touch.block k (HRB.out k hk).2 (NK.out k hk))
 have hsz3 : w.heap.size + 2 ≤ w3.heap.size := Nat.le_trans hsz1 s3.touch.size
 clear s3 HI1 B1 HRW NK W1
 obtain ⟨tw, htw⟩ : ∃ tw, tabW H = tw := ⟨_, rfl⟩
 rw [htw] at HR
 rw [htw]
 have HTW := Lib.hid htw
 clear htw
 obtain ⟨tt, htt⟩ : ∃ tt, tabV H = tt := ⟨_, rfl⟩
 rw [htt] at HR
 rw [htt]
 have HTT := Lib.hid htt
 clear htt
 obtain ⟨tk, tn, ts⟩ := tt
 by_cases hs : tw = sNone
 ·subst hs
  obtain ⟨r0, hr0⟩ : ∃ r0, putP ⟨tk, tn, ts⟩ ks 1 (tabH H) = r0 := ⟨_, rfl⟩
  rw [hr0] at HR
  have HRR : Hid (r = if r0.2 = sNone then .ok r0.1 ⟨tk, tn, ts⟩ else .no r0.1 r0.2) := Lib.hid (by rw [HR.out, if_pos rfl])
  have hN : ¬ RFoot g tv' w3.heap.size := fun hf => by have := S3.out.heap.low hf; omega
  have HU : Hid (RKyI w (w3.alloc (.cells #[.int .i64 tk, .int .i64 tn, .string ts] 26)) g tv tv' (w.heap.size + 1) (tabH H).tabs.length ⟨tk, tn, ts⟩ ks w3.heap.size (.slice qv ks.length cv) (tabH H)) :=
   Lib.hid ⟨S3.out.ext ((Ext.refl _).alloc _), rfl, Blk.new _ _ _, B3.out.alloc _, R3.out.ext ((Ext.refl _).alloc _), hN, N2.out, N3.out⟩
  have HP : Hid (putP ⟨tk, tn, ts⟩ (ks.drop 0) (((0 : Nat) : Int) + 1) (tabH H) = r0) := Lib.hid (by rw [List.drop_zero]; exact hr0)
  have htl : (tabH H).tabs.length ≤ 1000000001 := by
   unfold tabH
   split
   ·show (H.tabs ++ [[]]).length ≤ _
    rw [List.length_append]; simp; omega
   ·omega
  clear hr0 B3 R3 hN S3 HR N2 N3 NB
  go_wp2_with fail
  generalize w3.alloc (.cells #[.int .i64 tk, .int .i64 tn, .string ts] 26) = w5 at HU ⊢
  obtain ⟨bv, hbv⟩ : ∃ bv, w3.heap.size = bv := ⟨_, rfl⟩
  rw [hbv] at HU hsz3 ⊢
  clear hbv
  go_loopw [9] (fun s9 wr => ∃ (i : Nat) (Hc : Hp), s9 = .int .i64 (i : Int) ∧ i ≤ ks.length ∧ Hid (putP ⟨tk, tn, ts⟩ (ks.drop i) ((i : Int) + 1) Hc = r0) ∧ Hid (RKyI w wr g tv tv' (w.heap.size + 1) (tabH H).tabs.length ⟨tk, tn, ts⟩ ks bv (.slice qv ks.length cv) Hc)) (fun s9 _ => ks.length - (intOf s9).toNat)
  case atStart => exact ⟨0, _, rfl, Nat.zero_le _, HP, HU⟩
  case round =>
   obtain ⟨i, Hc, rfl, hi, HSP, HK⟩ := hrel
   clear HU HP
   obtain ⟨b0, b1, b2, _⟩ := three HK.out.box
   have bl := HK.out.box.lt
   have hiI : (i : Int) ≤ 65536 := by omega
   have hi0 : (0 : Int) ≤ (i : Int) := by omega
   by_cases hlt : i < ks.length
   ·obtain ⟨x, hx⟩ : ∃ x, ks[i]? = some x := ⟨_, List.getElem?_eq_getElem hlt⟩
    obtain ⟨kb, kc, ekv, hkb, d0, d1, d2⟩ := HK.out.row.cells i x hx
    obtain ⟨rfl, rfl⟩ : qv = some ⟨kb, 0, none⟩ ∧ cv = kc := by injection ekv with h1 _ h3; exact ⟨h1, h3⟩
    have hd : decide ((i : Int) < (ks.length : Int)) = true := decide_eq_true (by omega)
    have hd' : decide (i < ks.length) = true := decide_eq_true hlt
    have hltI : (i : Int) < (ks.length : Int) := by omega
    have hxn := HKO.out x (List.mem_of_getElem? hx)
    have hS := Lib.hid (fun (Z : World) (hZ : RHeapIn Z g tv' Hc) => rset_any g tv' Hc ⟨tk, tn, ts⟩ (iK ((i : Int) + 1)) x Z hZ (by rw [HK.out.len]; omega) ⟨by show (-9223372036854775808 : Int) ≤ (i : Int) + 1; omega, by show (i : Int) + 1 ≤ (9223372036854775807 : Int); omega⟩ hxn)
    obtain ⟨st, hst⟩ : ∃ st, setW Hc ⟨tk, tn, ts⟩ (iK ((i : Int) + 1)) x = st := ⟨_, rfl⟩
    have HSP2 := HSP.out
    rw [put_step _ _ _ _ _ hx, hst] at HSP2
    have HSP2 := Lib.hid HSP2
    rw [hst] at hS
    have HST := Lib.hid hst
    have nkb : ¬ RFoot g tv' kb := HK.out.n3 kb rfl
    have nbv : ¬ RFoot g tv' bv := HK.out.n1
    have hwr : IntKind.i64.wrap ((i : Int) + 1) = (i : Int) + 1 := IntWalk.i64_in _ (by omega)
    obtain ⟨xk, xn, xs⟩ := x
    simp only at d0 d1 d2
    clear ekv hx hst hxn HSP
    go_wp2_with fail
    go_upto_region 10 with (fail)
    go_cut [10] (fun s10 wx => s10 = .string st ∧ Hid (RKyI w wx g tv tv' (w.heap.size + 1) (tabH H).tabs.length ⟨tk, tn, ts⟩ ks bv (.slice (some ⟨kb, 0, none⟩) ks.length cv) (setH Hc ⟨tk, tn, ts⟩ (iK ((i : Int) + 1)) ⟨xk, xn, xs⟩)))
    case first =>
     go_region_held3 (fun w' => w'.cell? ⟨bv, 0, none⟩ = some (.int .i64 tk) ∧ w'.cell? ⟨bv, 1, none⟩ = some (.int .i64 tn) ∧ w'.cell? ⟨bv, 2, none⟩ = some (.string ts) ∧ w'.cell? ⟨kb, i * 3, none⟩ = some (.int .i64 xk) ∧ w'.cell? ⟨kb, i * 3 + 1, none⟩ = some (.int .i64 xn) ∧ w'.cell? ⟨kb, i * 3 + 2, none⟩ = some (.string xs)) (go_keep)
      (first
       | (go_at_call 116; refine (rnumber_any _ _).mono ?_; rintro e w6 ⟨rfl, e6⟩; have E6 := Lib.hid (show Ext wr w6 from (Ext.refl wr).drew.trans e6); have x0 := (E6.out.cells.1 _ _ bl).trans b0; have x1 := (E6.out.cells.1 _ _ bl).trans b1; have x2 := (E6.out.cells.1 _ _ bl).trans b2; have y0 := (E6.out.cells.1 _ _ hkb).trans d0; have y1 := (E6.out.cells.1 _ _ hkb).trans d1; have y2 := (E6.out.cells.1 _ _ hkb).trans d2; clear e6)
       | (go_at_call 84; refine (hS.out _ (HK.out.rs.heap.ext E6.out)).mono ?_; rintro e w7 ⟨rfl, hh7, ht7⟩; have U7 := Lib.hid (HK.out.set E6.out hh7 ht7); have z0 := (ht7.cells.1 bv _ (Nat.lt_of_lt_of_le bl E6.out.le) nbv).trans x0; have z1 := (ht7.cells.1 bv _ (Nat.lt_of_lt_of_le bl E6.out.le) nbv).trans x1; have z2 := (ht7.cells.1 bv _ (Nat.lt_of_lt_of_le bl E6.out.le) nbv).trans x2; have v0 := (ht7.cells.1 kb _ (Nat.lt_of_lt_of_le hkb E6.out.le) nkb).trans y0; have v1 := (ht7.cells.1 kb _ (Nat.lt_of_lt_of_le hkb E6.out.le) nkb).trans y1; have v2 := (ht7.cells.1 kb _ (Nat.lt_of_lt_of_le hkb E6.out.le) nkb).trans y2; clear hh7 ht7))
     all_goals go_wp2_with fail
     all_goals (
      go_meet
      exact ⟨rfl, U7⟩)
    case rest =>
    obtain ⟨rfl, HUZ⟩ := hcut
    obtain ⟨wz, rfl⟩ : ∃ wz : World, wz = wc := ⟨_, rfl⟩
    clear HK b0 b1 b2 bl d0 d1 d2 hkb hS
    by_cases hs : st = sNone
    ·have HSP3 := HSP2.out
     rw [if_pos hs] at HSP3
     have HSP3 := Lib.hid HSP3
     subst hs
     clear HSP2 HST
     go_wp2_with fail
     go_roundw
     case rel => exact ⟨i + 1, _, by go_num, by omega, HSP3, HUZ⟩
     case measure => simp [intOf]; omega
    ·have hst1 := str_ne_empty hs
     have HV : Hid (r = .no Hc st) := Lib.hid (by
      have := HSP2.out
      rw [if_neg hs] at this
      rw [HRR.out, ← this, if_neg hs])
     have HNS := Lib.hid hs
     have hHc : setH Hc ⟨tk, tn, ts⟩ (iK ((i : Int) + 1)) ⟨xk, xn, xs⟩ = Hc := setH_no (by rw [HST.out]; exact hs)
     rw [hHc] at HUZ
     obtain ⟨z0, z1, z2, y0, y1, y2⟩ := three HUZ.out.res
     have hlt2 := HUZ.out.res.lt
     clear HSP2 HST hs hHc
     go_wp2_with fail
     exact bodyPost_ret (v := .tuple #[Vl.zero.v, .string st]) (by simp [results, Tryz.results125, go_sem, Vl.zero, *]) rfl (by rw [HV.out]; exact ⟨by rw [if_neg (show ¬ (Rs.no Hc st).w = sNone from HNS.out)]; rfl, (HUZ.out.rs.zeroed HUZ.out.res (by omega) _ _ _).step⟩)
   ·obtain rfl : i = ks.length := by omega
    have hd : decide ((ks.length : Int) < (ks.length : Int)) = false := decide_eq_false (by omega)
    have hd' : decide (ks.length < ks.length) = false := decide_eq_false (by omega)
    have hst : r0 = (Hc, sNone) := by
     have h1 := HSP.out
     rw [List.drop_length] at h1
     exact h1.symm
    have HV : Hid (r = .ok Hc ⟨tk, tn, ts⟩) := Lib.hid (by rw [HRR.out, hst]; simp only [if_pos])
    obtain ⟨z0, z1, z2, y0, y1, y2⟩ := three HK.out.res
    have hlt6 := HK.out.res.lt
    have hbB : ¬ bv = w.heap.size + 1 := by omega
    have hbB2 : ¬ w.heap.size + 1 = bv := by omega
    clear hst HSP
    go_wp2_with fail
    exact bodyPost_ret (v := .tuple #[(⟨tk, tn, ts⟩ : Vl).v, .string sNone]) (by simp [results, Tryz.results125, go_sem, sNone, *]) rfl (by rw [HV.out]; exact ⟨by rw [if_pos (show (Rs.ok Hc ⟨tk, tn, ts⟩).w = sNone from rfl)]; rfl, (HK.out.rs.zeroed HK.out.res (by omega) _ _ _).step⟩)
 ·have HV : Hid (r = Rs.no H tw) := Lib.hid (by rw [HR.out, if_neg hs])
  have hst1 := str_ne_empty hs
  have HNS := Lib.hid hs
  have HTH : Hid (tabH H = H) := Lib.hid (by
   have h1 := HTW.out
   unfold tabW at h1
   unfold tabH
   split
   ·rename_i hm
    rw [if_pos hm] at h1
    exact absurd h1.symm hs
   ·rfl)
  have S4 : Hid (RS w g tv w3 tv' H) := Lib.hid (by have := S3.out; rw [HTH.out] at this; exact this)
  obtain ⟨z0, z1, z2, y0, y1, y2⟩ := three B3.out
  have hlt6 := B3.out.lt
  clear hs HR
  go_wp2_with fail
  exact bodyPost_ret (v := .tuple #[Vl.zero.v, .string tw]) (by simp [results, Tryz.results125, go_sem, Vl.zero, *]) rfl (by rw [HV.out]; exact ⟨by rw [if_neg (show ¬ (Rs.no H tw).w = sNone from HNS.out)]; rfl, RS.step (tv1 := tv') (by first | exact (S4.out.zeroed B3.out (by omega) _ _ _).ext ((Ext.refl _).alloc _) | exact (S4.out.ext ((Ext.refl _).alloc _)).zeroed (B3.out.alloc _) (by omega) _ _ _)⟩)
end Go.Proofs.YtfagldjhibdfhaaGreatDoor
