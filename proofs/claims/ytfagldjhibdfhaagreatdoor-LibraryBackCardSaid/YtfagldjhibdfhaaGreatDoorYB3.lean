/- The library's remove. The library's keys. -/
import Derived.Test.YtfagldjhibdfhaaGreatDoorYB1
import Derived.Test.YtfagldjhibdfhaaGreatDoorYA6
namespace Go.Proofs.YtfagldjhibdfhaaGreatDoor
open Go.RowKit
set_option linter.unusedVariables false
set_option linter.unusedSimpArgs false

structure DnI (w wr : World) (g : Nat) (tv : Value) (rs : List (Nat × Nat)) (H : Hp) (t v : Vl) (n : Int) (r : Hp × ByteArray) (bv k : Nat) (Hc : Hp) : Prop where
 heap : HeapIn wr g tv rs Hc
 touch : Touch (Foot g tv rs) w wr
 len : Hc.tabs.length = H.tabs.length
 of : ofW Hc t = sNone
 spec : dnP t n k Hc = r
 fine : r.2 = sNone
 low : w.heap.size < bv
 box : Blk wr bv 26 #[.int .i64 v.k, .int .i64 v.n, .string v.s]
 res : Blk wr w.heap.size 26 #[.int .i64 0, .int .i64 0, .string ⟨#[]⟩]
theorem DnI.set {w wr : World} {g : Nat} {tv : Value} {rs : List (Nat × Nat)} {H : Hp} {t v : Vl} {n i : Int} {r : Hp × ByteArray} {bv k : Nat} {Hc : Hp} (h : DnI w wr g tv rs H t v n r bv (k + 1) Hc) (hi : i = n - (k + 1 : Nat)) : setW Hc t (iK i) (getV Hc t (iK (i + 1))) = sNone := by
 have hs2 := h.spec
 have e1 : i = n - k - 1 := by omega
 have e2 : i + 1 = n - k := by omega
 rw [e2, e1]
 unfold dnP at hs2
 by_cases hs : setW Hc t (iK (n - k - 1)) (getV Hc t (iK (n - k))) = sNone
 ·exact hs
 ·rw [if_neg hs] at hs2
  have := h.fine
  rw [← hs2] at this
  exact absurd this hs
theorem DnI.go {w wr w' : World} {g : Nat} {tv : Value} {rs : List (Nat × Nat)} {H : Hp} {t v : Vl} {n i : Int} {r : Hp × ByteArray} {bv k : Nat} {Hc : Hp} (h : DnI w wr g tv rs H t v n r bv (k + 1) Hc) (hi : i = n - (k + 1 : Nat))
  (hn : ∀ x, w.heap.size ≤ x → ¬ Foot g tv rs x) (hh : HeapIn w' g tv rs (setH Hc t (iK i) (getV Hc t (iK (i + 1))))) (ht : Touch (Foot g tv rs) wr w') : DnI w w' g tv rs H t v n r bv k (setH Hc t (iK i) (getV Hc t (iK (i + 1)))) :=
 ⟨hh, h.touch.trans ht, by rw [setH_len]; exact h.len, by rw [ofW_set]; exact h.of, by
  have hs2 := h.spec
  have hs := h.set hi
  have e1 : i = n - k - 1 := by omega
  have e2 : i + 1 = n - k := by omega
  rw [e2, e1] at hs ⊢
  unfold dnP at hs2
  rw [if_pos hs] at hs2
  exact hs2, h.fine, h.low, (ht.block _ h.box.lt (hn _ (Nat.le_of_lt h.low))).trans h.box, (ht.block _ h.res.lt (hn _ (Nat.le_refl _))).trans h.res⟩
theorem Blk.newd (w : World) (t : TypeId) (cs : Array Value) : Blk ((w.alloc (.cells cs t)).drew) w.heap.size t cs := (Blk.new w t cs).drew
set_option maxRecDepth 100000 in
set_option maxHeartbeats 1600000 in
theorem remove1_do (g : Nat) (tv : Value) (rs : List (Nat × Nat)) (H : Hp) (w : World) (h : HeapIn w g tv rs H) (hlen : H.tabs.length ≤ 9223372036854775807) (b o cap : Nat) (x0 : Vl) (hof : ofW H x0 = sNone) (a0 : ArgAt w b o x0) (nb : ¬ Foot g tv rs b) :
  Calls Tryz.prog 71 #[.pointer (some ⟨g, 0, none⟩), .slice (some ⟨b, o, none⟩) 1 cap] w (DoE w g tv rs (removeR H x0 none)) := by
 have HI0 := Lib.hid h
 have hT := tabOf_ok h.ok (ofW_none hof).2.2.2.2
 have HTB := Lib.hid hT
 have hl0 := (lenV_tab hof).1
 have hmost := Nat.le_trans (tlen_le hT) hT.most
 obtain ⟨n, hn⟩ : ∃ n : Nat, lenV H x0 = (n : Int) := ⟨_, hl0⟩
 have HTN : Hid (tlen (tabOf H x0) = n) := Lib.hid (by omega)
 have hn2 : n ≤ 65536 := by omega
 have HI := Lib.hid (h.alloc (.cells #[.int .i64 0, .int .i64 0, .string ⟨#[]⟩] 26))
 have HB := Lib.hid (Blk.new w 26 #[.int .i64 0, .int .i64 0, .string ⟨#[]⟩])
 have HN : Hid (¬ Foot g tv rs w.heap.size) := Lib.hid (fun hx => Nat.lt_irrefl _ (h.low hx))
 have HW := Lib.hid ((Ext.refl w).alloc (.cells #[.int .i64 0, .int .i64 0, .string ⟨#[]⟩] 26))
 have cL := Lib.hid (fun (W : World) (hW : HeapIn W g tv rs H) => hn ▸ long_yes g tv rs H x0 W hW hlen (lenV_tab hof).2)
 obtain ⟨r, hr⟩ : ∃ r, removeR H x0 none = r := ⟨_, rfl⟩
 rw [hr]
 have HR := Lib.hid hr
 obtain ⟨k0, n0, s0⟩ := x0
 have c0 := (a0.ext HW.out).k
 have c1 := (a0.ext HW.out).n
 have c2 := (a0.ext HW.out).s
 simp only at c0 c1 c2
 have hb := a0.lt
 have HNN := Lib.hid hn
 have HA0 := Lib.hid a0
 have HNF : Hid (∀ x, w.heap.size ≤ x → ¬ Foot g tv rs x) := Lib.hid (fun x hx hf => by have := HI0.out.low hf; omega)
 clear hn hl0 hT hmost hr h a0
 go_enter Tryz.func71, Tryz.ntmps71
 go_wp2_with fail
 generalize w.alloc (.cells #[.int .i64 0, .int .i64 0, .string ⟨#[]⟩] 26) = W at *
 refine (cL.out _ HI.out).mono ?_
 rintro e w1 ⟨rfl, e1x⟩
 have hbW0 : b < W.heap.size := Nat.lt_of_lt_of_le hb HW.out.le
 replace c0 := (e1x.cells.1 b o hbW0).trans c0
 replace c1 := (e1x.cells.1 b (o + 1) hbW0).trans c1
 replace c2 := (e1x.cells.1 b (o + 2) hbW0).trans c2
 have W1 := Lib.hid (HW.out.trans e1x)
 replace HI := Lib.hid (HI.out.ext e1x)
 replace HB := Lib.hid (HB.out.ext e1x)
 replace HW := Lib.hid W1.out
 clear W1 e1x cL hbW0
 have hbW : b < w1.heap.size := Nat.lt_of_lt_of_le hb HW.out.le
 rcases Nat.eq_zero_or_pos n with hz | hz
 ·subst hz
  have HV : Hid (r = Rs.ok H Vl.zero) := Lib.hid (by
   rw [← HR.out]
   unfold removeR
   simp only [HNN.out]
   rw [if_pos (by simp)])
  obtain ⟨z0, z1, z2, y0, y1, y2⟩ := three HB.out
  have hlt := HB.out.lt
  go_wp2_with fail
  exact bodyPost_ret (v := Vl.zero.v) (by simp [results, Tryz.results71, go_sem, Vl.zero, *]) rfl (by rw [HV.out]; exact DoE.yes (r := Rs.ok H _) rfl ((HS.of_ext HI0.out HW.out).set3 (Nat.le_refl _) HN.out _ _ _))
 have hnz : ((n : Int) == 0) = false := by rw [beq_eq_false_iff_ne]; omega
 have hnz2 : (n == 0) = false := by rw [beq_eq_false_iff_ne]; omega
 have hgt : decide ((0 : Int) < (n : Int)) = true := decide_eq_true (by omega)
 have hgt2 : decide (0 < n) = true := decide_eq_true hz
 have hr1 : 1 ≤ (n : Int) := by omega
 have hr2 : (n : Int) ≤ n := Int.le_refl _
 have HWI := Lib.hid (fun (Z : World) => (within_any ((n : Int)) 1 (n : Int) Z).mono (R' := fun e w' => e = .returned (.int .i64 ((n : Int))) ∧ Z = w') fun e w' h => ⟨by rw [h.1, show max 1 (min ((n : Int)) (n : Int)) = (n : Int) by omega], h.2⟩)
 go_wp2_with fail
 refine (HWI.out _).mono ?_
 rintro e w3 ⟨rfl, rfl⟩
 go_wp2_with fail
 refine (must_yes _ _).mono ?_
 rintro e w4 ⟨rfl, rfl⟩
 have hG := Lib.hid (fun (Z : World) (hZ : HeapIn Z g tv rs H) => get_any g tv rs H ⟨k0, n0, s0⟩ (iK ((n : Int))) Z hZ hlen ⟨by show (-9223372036854775808 : Int) ≤ (n : Int); omega, by show (n : Int) ≤ (9223372036854775807 : Int); omega⟩)
 rw [getW_int hof] at hG
 obtain ⟨gv, hgv⟩ : ∃ gv, getV H ⟨k0, n0, s0⟩ (iK ((n : Int))) = gv := ⟨_, rfl⟩
 rw [hgv] at hG
 have HGV := Lib.hid hgv
 obtain ⟨gk, gn, gs⟩ := gv
 clear hgv HWI
 go_wp2_with fail
 go_upto_region 9 with (fail)
 go_cut [7] (fun s7 wx => ∃ bv : Nat, s7 = .pointer (some ⟨bv, 0, none⟩) ∧ w.heap.size < bv ∧ Hid (Blk wx bv 26 #[.int .i64 gk, .int .i64 gn, .string gs] ∧ Ext w1 wx))
 case first =>
  have hwW : w.heap.size < w1.heap.size := HB.out.lt
  have hnb : ¬ w1.heap.size = b := by omega
  have hnb2 : ¬ b = w1.heap.size := by omega
  go_region_held3 (fun w' => w'.cell? ⟨b, o, none⟩ = some (.int .i64 k0) ∧ w'.cell? ⟨b, o + 1, none⟩ = some (.int .i64 n0) ∧ w'.cell? ⟨b, o + 2, none⟩ = some (.string s0)) (go_keep)
   (first
    | (go_at_call 17; refine (int_any _ _).mono ?_; rintro e w3 ⟨rfl, e3⟩; have E3 := Lib.hid (show Ext w1 w3 from Ext.trans (by repeat (first | exact Ext.refl _ | refine Ext.drew ?_ | refine Ext.alloc ?_ _)) e3); have x0 := (E3.out.cells.1 _ _ hbW).trans c0; have x1 := (E3.out.cells.1 _ _ hbW).trans c1; have x2 := (E3.out.cells.1 _ _ hbW).trans c2; have L3 : b < w3.heap.size := Nat.lt_of_lt_of_le hbW E3.out.le; have nn3 : ¬ w3.heap.size = b := Nat.ne_of_gt L3; have nm3 : ¬ b = w3.heap.size := Nat.ne_of_lt L3; (try (have hq : Ext (World.alloc w1.drew (.cells #[.int .i64 0, .int .i64 0, .string ⟨#[]⟩] 26)) w3 := (by with_reducible exact e3); have ZA := Lib.hid (ZV.new w1.heap.size rfl hq); clear hq)); (try (have hq : Ext (World.drew (World.alloc w1 (.cells #[.int .i64 0, .int .i64 0, .string ⟨#[]⟩] 26))) w3 := (by with_reducible exact e3); have ZA := Lib.hid (ZV.newd w1.heap.size rfl hq); clear hq)); clear e3)
    | (go_at_call 39; refine (hG.out _ (by repeat (first | exact HI.out.ext E3.out | refine HeapIn.ext ?_ (Ext.alloc (Ext.refl _) _)))).mono ?_; rintro e w4 ⟨rfl, e4⟩; have E4 := Lib.hid (show Ext w1 w4 from Ext.trans (by repeat (first | exact E3.out | refine Ext.alloc ?_ _)) e4); have y0 := (E4.out.cells.1 _ _ hbW).trans c0; have y1 := (E4.out.cells.1 _ _ hbW).trans c1; have y2 := (E4.out.cells.1 _ _ hbW).trans c2; have L4 : b < w4.heap.size := Nat.lt_of_lt_of_le hbW E4.out.le; have nn4 : ¬ w4.heap.size = b := Nat.ne_of_gt L4; have nm4 : ¬ b = w4.heap.size := Nat.ne_of_lt L4; (try (have hz : Hid (ZV w3 w1.heap.size) := (by with_reducible assumption); have ZB := Lib.hid (hz.out.ext e4); clear hz)); (try (have hq : Ext (World.alloc w3 (.cells #[.int .i64 0, .int .i64 0, .string ⟨#[]⟩] 26)) w4 := (by with_reducible exact e4); have ZC := Lib.hid (ZV.new w3.heap.size rfl hq); clear hq)); clear e4)
    | (go_at_call 53; refine (got_yes ⟨gk, gn, gs⟩ _).mono ?_; rintro e w5 ⟨rfl, e5⟩; have E5 := Lib.hid (show Ext w1 w5 from Ext.trans (by repeat (first | exact E4.out | refine Ext.alloc ?_ _)) e5); have v0 := (E5.out.cells.1 _ _ hbW).trans c0; have v1 := (E5.out.cells.1 _ _ hbW).trans c1; have v2 := (E5.out.cells.1 _ _ hbW).trans c2; have L5 : b < w5.heap.size := Nat.lt_of_lt_of_le hbW E5.out.le; have nn5 : ¬ w5.heap.size = b := Nat.ne_of_gt L5; have nm5 : ¬ b = w5.heap.size := Nat.ne_of_lt L5; (try (have hz : Hid (ZV w4 w1.heap.size) := (by with_reducible assumption); have ZZ := Lib.hid (hz.out.ext e5); obtain ⟨zl, zv0, zv1, zv2, zf0, zf1, zf2⟩ := ZZ.out.facts; clear hz)); (try (have hz : Hid (ZV w4 w3.heap.size) := (by with_reducible assumption); have ZZ := Lib.hid (hz.out.ext e5); obtain ⟨zl, zv0, zv1, zv2, zf0, zf1, zf2⟩ := ZZ.out.facts; clear hz)); (try (have hq : Ext (World.alloc w4 (.cells #[.int .i64 0, .int .i64 0, .string ⟨#[]⟩] 26)) w5 := (by with_reducible exact e5); have ZZ := Lib.hid (ZV.new w4.heap.size rfl hq); obtain ⟨zl, zv0, zv1, zv2, zf0, zf1, zf2⟩ := ZZ.out.facts; clear hq)); clear e5))
  all_goals go_wp2_with fail
  all_goals (
   go_meet
   first
    | exact ⟨_, rfl, hwW, Lib.hid ⟨put3 ZZ.out _ _ _, ((E5.out.setCell (Nat.le_refl _) _).setCell (Nat.le_refl _) _).setCell (Nat.le_refl _) _⟩⟩
    | exact ⟨_, rfl, Nat.lt_of_lt_of_le hwW E3.out.le, Lib.hid ⟨put3 ZZ.out _ _ _, ((E5.out.setCell E3.out.le _).setCell E3.out.le _).setCell E3.out.le _⟩⟩
    | exact ⟨_, rfl, Nat.lt_of_lt_of_le hwW E4.out.le, Lib.hid ⟨put3 ZZ.out _ _ _, ((E5.out.setCell E4.out.le _).setCell E4.out.le _).setCell E4.out.le _⟩⟩
    | exact ⟨_, rfl, Nat.lt_of_lt_of_le hwW E5.out.le, Lib.hid ⟨Blk.new _ _ _, E5.out.alloc _⟩⟩)
 case rest =>
  obtain ⟨bv, rfl, hbv, HX⟩ := hcut
  obtain ⟨wx, rfl⟩ : ∃ wx : World, wx = wc := ⟨_, rfl⟩
  have EX := Lib.hid (HW.out.trans HX.out.2)
  have HIx := Lib.hid (HI.out.ext HX.out.2)
  have HBx := Lib.hid (HB.out.ext HX.out.2)
  have BV := Lib.hid HX.out.1
  clear HX HI HB HW hG c0 c1 c2 hbW
  obtain ⟨r0, hr0⟩ : ∃ r0, dnP ⟨k0, n0, s0⟩ (n : Int) ((n : Int) - ((n : Int))).toNat H = r0 := ⟨_, rfl⟩
  have hfin := dn_get ⟨k0, n0, s0⟩ (n : Int) (by omega) ((n : Int) - ((n : Int))).toNat H HI0.out.ok hof (by omega) (fun i h3 h4 => by have h5 := tlen_some HTB.out i (by omega) (by rw [HTN.out]; omega); exact h5)
  have hf0 := hfin.1
  have hf3 : ¬ (tget (tabOf (dnP ⟨k0, n0, s0⟩ (n : Int) ((n : Int) - ((n : Int))).toNat H).1 ⟨k0, n0, s0⟩) (iK n)).k = 0 := by
   rw [hfin.2.2.2.1, if_neg (by omega)]
   exact tlen_some HTB.out n (by omega) (by rw [HTN.out]; omega)
  rw [hr0] at hf0 hf3
  have HS0 : Hid (r = .ok (setH r0.1 ⟨k0, n0, s0⟩ (iK n) Vl.zero) ⟨gk, gn, gs⟩ ∧ setW r0.1 ⟨k0, n0, s0⟩ (iK n) Vl.zero = sNone) := Lib.hid (by
   have hof0 : ofW r0.1 ⟨k0, n0, s0⟩ = sNone := by rw [← hr0]; exact hfin.2.2.1
   have hw0 : setW r0.1 ⟨k0, n0, s0⟩ (iK n) Vl.zero = sNone := setW_old hof0 ck_zero (.inr rfl)
   refine ⟨?_, hw0⟩
   rw [← HR.out]
   unfold removeR
   simp only [HNN.out, Option.getD_some, Option.getD_none]
   rw [if_neg (by rintro ⟨h1, h2⟩; first | omega | cases h1), if_neg (by omega), hr0, if_pos hf0, if_pos hw0, HGV.out])
  have hU : DnI w wx g tv rs H ⟨k0, n0, s0⟩ ⟨gk, gn, gs⟩ (n : Int) r0 bv ((n : Int) - ((n : Int))).toNat H := ⟨HIx.out, .of_ext EX.out, rfl, hof, hr0, hf0, hbv, BV.out, HBx.out⟩
  have HU := Lib.hid hU
  clear hU hr0 hfin hf0 hf3 BV HIx HBx
  go_wp2_with fail
  go_loopw [8] (fun v8 wr => ∃ (i : Int) (k : Nat) (Hc : Hp), v8 = .int .i64 i ∧ Hid (i = n - k) ∧ (n : Int) ≤ i ∧ i ≤ n ∧ Hid (DnI w wr g tv rs H ⟨k0, n0, s0⟩ ⟨gk, gn, gs⟩ (n : Int) r0 bv k Hc)) (fun v8 _ => ((n : Int) - intOf v8).toNat)
  case atStart => exact ⟨(n : Int), _, H, rfl, Lib.hid (by omega), by omega, by omega, HU⟩
  case round =>
   obtain ⟨i, k, Hc, rfl, hik, hi1, hi2, HUP⟩ := hrel
   have hbr : b < wr.heap.size := Nat.lt_of_lt_of_le hb HUP.out.touch.size
   have aa := HA0.out.of (HUP.out.touch.block b hb nb)
   have c0 := aa.k
   have c1 := aa.n
   have c2 := aa.s
   simp only at c0 c1 c2
   clear aa
   by_cases hge : i < (n : Int)
   ·have hd : decide (i < (n : Int)) = true := decide_eq_true hge
    obtain ⟨k, rfl⟩ : ∃ k', k = k' + 1 := ⟨k - 1, by have := hik.out; omega⟩
    have HIK : Hid (i = n - (k + 1 : Nat)) := Lib.hid hik.out
    have hs := HUP.out.set HIK.out
    have hG := Lib.hid (fun (Z : World) (hZ : HeapIn Z g tv rs Hc) => get_any g tv rs Hc ⟨k0, n0, s0⟩ (iK (i + 1)) Z hZ (by rw [HUP.out.len]; exact hlen) ⟨by show (-9223372036854775808 : Int) ≤ i + 1; omega, by show i + 1 ≤ 9223372036854775807; omega⟩)
    rw [getW_int HUP.out.of] at hG
    have hS := Lib.hid (fun (Z : World) (hZ : HeapIn Z g tv rs Hc) => lset_any g tv rs Hc ⟨k0, n0, s0⟩ i (getV Hc ⟨k0, n0, s0⟩ (iK (i + 1))) Z hZ (by rw [HUP.out.len]; exact hlen) ⟨by omega, by omega⟩ (getV_ok HUP.out.heap.ok _ _).1)
    have hST : Hid (∀ (Z w' : World), Ext wr Z → SetE Z g tv rs Hc ⟨k0, n0, s0⟩ i (getV Hc ⟨k0, n0, s0⟩ (iK (i + 1))) (.returned (.tuple #[])) w' → DnI w w' g tv rs H ⟨k0, n0, s0⟩ ⟨gk, gn, gs⟩ (n : Int) r0 bv k (setH Hc ⟨k0, n0, s0⟩ (iK i) (getV Hc ⟨k0, n0, s0⟩ (iK (i + 1))))) :=
     Lib.hid (fun Z w' hZ hE => HUP.out.go HIK.out HNF.out hE.heap (Touch.pre hZ hE.touch))
    have HG := Lib.hid (HUP.out.heap)
    obtain ⟨qv, hqv⟩ : ∃ qv, getV Hc ⟨k0, n0, s0⟩ (iK (i + 1)) = qv := ⟨_, rfl⟩
    rw [hqv] at hG hS hST hs
    have HSN := Lib.hid hs
    obtain ⟨qk, qn, qs⟩ := qv
    have hwr : IntKind.i64.wrap (i + 1) = i + 1 := IntWalk.i64_in _ (by omega)
    clear hqv hs hge hik HUP
    go_wp2_with fail
    go_region_held3 (fun w' => w'.cell? ⟨b, o, none⟩ = some (.int .i64 k0) ∧ w'.cell? ⟨b, o + 1, none⟩ = some (.int .i64 n0) ∧ w'.cell? ⟨b, o + 2, none⟩ = some (.string s0)) (go_keep)
     (first
      | (go_at_call 17; refine (int_any _ _).mono ?_; rintro e w3 ⟨rfl, e3⟩; have E3 := Lib.hid (show Ext wr w3 from Ext.trans (by repeat (first | exact Ext.refl _ | refine Ext.drew ?_)) e3); have x0 := (E3.out.cells.1 _ _ hbr).trans c0; have x1 := (E3.out.cells.1 _ _ hbr).trans c1; have x2 := (E3.out.cells.1 _ _ hbr).trans c2; clear e3)
      | (go_at_call 39; refine (hG.out _ (HG.out.ext E3.out)).mono ?_; rintro e w4 ⟨rfl, e4⟩; have E4 := Lib.hid (E3.out.trans e4); have y0 := (E4.out.cells.1 _ _ hbr).trans c0; have y1 := (E4.out.cells.1 _ _ hbr).trans c1; have y2 := (E4.out.cells.1 _ _ hbr).trans c2; clear e4)
      | (go_at_call 53; refine (got_yes ⟨qk, qn, qs⟩ _).mono ?_; rintro e w5 ⟨rfl, e5⟩; have E5 := Lib.hid (E4.out.trans e5); have z0 := (E5.out.cells.1 _ _ hbr).trans c0; have z1 := (E5.out.cells.1 _ _ hbr).trans c1; have z2 := (E5.out.cells.1 _ _ hbr).trans c2; clear e5)
      | (go_at_call 103; refine (hS.out _ (HG.out.ext E5.out)).mono ?_; intro e w6 hE; obtain rfl := hE.yes HSN.out; have U6 := Lib.hid (hST.out _ _ E5.out hE); have q0 := (hE.touch.cells.1 b o (Nat.lt_of_lt_of_le hbr E5.out.le) nb).trans z0; have q1 := (hE.touch.cells.1 b (o + 1) (Nat.lt_of_lt_of_le hbr E5.out.le) nb).trans z1; have q2 := (hE.touch.cells.1 b (o + 2) (Nat.lt_of_lt_of_le hbr E5.out.le) nb).trans z2; clear hE))
    all_goals go_wp2_with fail
    all_goals (
     go_roundw
     case rel => exact ⟨i + 1, k, _, rfl, Lib.hid (by have := HIK.out; omega), by omega, by have := HIK.out; omega, U6⟩
     case measure => have := HIK.out; simp [intOf]; omega)
   ·have hd : decide (i < (n : Int)) = false := decide_eq_false hge
    obtain rfl : k = 0 := by have := hik.out; omega
    have hr0 : r0 = (Hc, sNone) := HUP.out.spec.symm
    obtain ⟨bl, w0, w1, w2⟩ := (⟨HUP.out.box.lt, HUP.out.box.cell 0, HUP.out.box.cell 1, HUP.out.box.cell 2⟩ : bv < wr.heap.size ∧ wr.cell? ⟨bv, 0, none⟩ = some (.int .i64 gk) ∧ wr.cell? ⟨bv, 1, none⟩ = some (.int .i64 gn) ∧ wr.cell? ⟨bv, 2, none⟩ = some (.string gs))
    have nbv : ¬ Foot g tv rs bv := HNF.out bv (Nat.le_of_lt hbv)
    have hS := Lib.hid (fun (Z : World) (hZ : HeapIn Z g tv rs Hc) => lset_any g tv rs Hc ⟨k0, n0, s0⟩ (n : Int) Vl.zero Z hZ (by rw [HUP.out.len]; exact hlen) ⟨by omega, by omega⟩ ⟨by decide, by decide⟩)
    have hrr := HS0.out
    rw [hr0] at hrr
    have HRR := Lib.hid hrr
    have HG := Lib.hid HUP.out.heap
    have HT := Lib.hid HUP.out.touch
    have HRS := Lib.hid HUP.out.res
    clear hrr hr0 HS0 HUP hge hik hlen
    go_wp2_with fail
    refine (hS.out _ HG.out).mono ?_
    intro e w6 hE
    obtain rfl := hE.yes HRR.out.2
    have T6 := Lib.hid (show HeapIn w6 g tv rs _ ∧ Touch (Foot g tv rs) wr w6 from ⟨hE.heap, hE.touch⟩)
    have r0 := (T6.out.2.cells.1 bv 0 bl nbv).trans w0
    have r1 := (T6.out.2.cells.1 bv 1 bl nbv).trans w1
    have r2 := (T6.out.2.cells.1 bv 2 bl nbv).trans w2
    clear hE w0 w1 w2
    obtain ⟨z0, z1, z2, y0, y1, y2⟩ := three (show Blk w6 w.heap.size 26 #[.int .i64 0, .int .i64 0, .string ⟨#[]⟩] from (T6.out.2.block _ HRS.out.lt HN.out).trans HRS.out)
    have hlt6 : w.heap.size < w6.heap.size := Nat.lt_of_lt_of_le HRS.out.lt T6.out.2.size
    go_wp2_with fail
    exact bodyPost_ret (v := (⟨gk, gn, gs⟩ : Vl).v) (by simp [results, Tryz.results71, go_sem, *]) rfl (by rw [HRR.out.1]; exact DoE.yes (r := .ok (setH Hc ⟨k0, n0, s0⟩ (iK n) Vl.zero) ⟨gk, gn, gs⟩) rfl ((HS.of_touch T6.out.1 (HT.out.trans T6.out.2)).set3 (Nat.le_refl _) HN.out _ _ _))
set_option maxRecDepth 100000 in
set_option maxHeartbeats 1600000 in
theorem remove2_do (g : Nat) (tv : Value) (rs : List (Nat × Nat)) (H : Hp) (w : World) (h : HeapIn w g tv rs H) (hlen : H.tabs.length ≤ 9223372036854775807) (b o cap : Nat) (x0 x1 : Vl) (hof : ofW H x0 = sNone) (a0 : ArgAt w b o x0) (a1 : ArgAt w b (o + 3) x1) (h1 : in64 x1.n) (nb : ¬ Foot g tv rs b) :
  Calls Tryz.prog 71 #[.pointer (some ⟨g, 0, none⟩), .slice (some ⟨b, o, none⟩) 2 cap] w (DoE w g tv rs (removeR H x0 (some x1.n))) := by
 have HI0 := Lib.hid h
 have hT := tabOf_ok h.ok (ofW_none hof).2.2.2.2
 have HTB := Lib.hid hT
 have hl0 := (lenV_tab hof).1
 have hmost := Nat.le_trans (tlen_le hT) hT.most
 obtain ⟨n, hn⟩ : ∃ n : Nat, lenV H x0 = (n : Int) := ⟨_, hl0⟩
 have HTN : Hid (tlen (tabOf H x0) = n) := Lib.hid (by omega)
 have hn2 : n ≤ 65536 := by omega
 have HI := Lib.hid (h.alloc (.cells #[.int .i64 0, .int .i64 0, .string ⟨#[]⟩] 26))
 have HB := Lib.hid (Blk.new w 26 #[.int .i64 0, .int .i64 0, .string ⟨#[]⟩])
 have HN : Hid (¬ Foot g tv rs w.heap.size) := Lib.hid (fun hx => Nat.lt_irrefl _ (h.low hx))
 have HW := Lib.hid ((Ext.refl w).alloc (.cells #[.int .i64 0, .int .i64 0, .string ⟨#[]⟩] 26))
 have cL := Lib.hid (fun (W : World) (hW : HeapIn W g tv rs H) => hn ▸ long_yes g tv rs H x0 W hW hlen (lenV_tab hof).2)
 obtain ⟨r, hr⟩ : ∃ r, removeR H x0 (some x1.n) = r := ⟨_, rfl⟩
 rw [hr]
 have HR := Lib.hid hr
 obtain ⟨k0, n0, s0⟩ := x0
 obtain ⟨k1, p, s1⟩ := x1
 have e1 := (a1.ext HW.out).n
 have c0 := (a0.ext HW.out).k
 have c1 := (a0.ext HW.out).n
 have c2 := (a0.ext HW.out).s
 simp only at c0 c1 c2 e1 h1
 have hb := a0.lt
 have HNN := Lib.hid hn
 have HA0 := Lib.hid a0
 have HNF : Hid (∀ x, w.heap.size ≤ x → ¬ Foot g tv rs x) := Lib.hid (fun x hx hf => by have := HI0.out.low hf; omega)
 clear hn hl0 hT hmost hr h a0 a1
 go_enter Tryz.func71, Tryz.ntmps71
 go_wp2_with fail
 generalize w.alloc (.cells #[.int .i64 0, .int .i64 0, .string ⟨#[]⟩] 26) = W at *
 refine (cL.out _ HI.out).mono ?_
 rintro e w1 ⟨rfl, e1x⟩
 have hbW0 : b < W.heap.size := Nat.lt_of_lt_of_le hb HW.out.le
 replace c0 := (e1x.cells.1 b o hbW0).trans c0
 replace c1 := (e1x.cells.1 b (o + 1) hbW0).trans c1
 replace c2 := (e1x.cells.1 b (o + 2) hbW0).trans c2
 replace e1 := (e1x.cells.1 b (o + 3 + 1) hbW0).trans e1
 have W1 := Lib.hid (HW.out.trans e1x)
 replace HI := Lib.hid (HI.out.ext e1x)
 replace HB := Lib.hid (HB.out.ext e1x)
 replace HW := Lib.hid W1.out
 clear W1 e1x cL hbW0
 have hbW : b < w1.heap.size := Nat.lt_of_lt_of_le hb HW.out.le
 rcases Nat.eq_zero_or_pos n with hz | hz
 ·subst hz
  have HV : Hid (r = Rs.no H sRange) := Lib.hid (by
   rw [← HR.out]
   unfold removeR
   simp only [HNN.out]
   rw [if_neg (by simp), if_pos (by simp only [Option.getD_some]; omega)])
  go_wp2_with fail
  refine (must_no _ _).mono ?_
  rintro e w4 ⟨rfl, rfl⟩
  go_wp2_with fail
  exact ⟨rfl, by rw [HV.out]; exact DoE.no (r := Rs.no H sRange) (show ¬ sRange = sNone from by decide) (HS.of_ext HI0.out HW.out)⟩
 have hgt : decide ((0 : Int) < (n : Int)) = true := decide_eq_true (by omega)
 have hgt2 : decide (0 < n) = true := decide_eq_true hz
 by_cases hrn : ¬ (1 ≤ p ∧ p ≤ (n : Int))
 ·have HWO := Lib.hid (fun (Z : World) => within_any p 1 (n : Int) Z)
  have hne : (p == max 1 (min p (n : Int))) = false := by rw [beq_eq_false_iff_ne]; omega
  obtain ⟨y, hy⟩ : ∃ y, max 1 (min p (n : Int)) = y := ⟨_, rfl⟩
  rw [hy] at HWO hne
  have HV : Hid (r = Rs.no H sRange) := Lib.hid (by
   rw [← HR.out]
   unfold removeR
   simp only [HNN.out]
   rw [if_neg (by simp), if_pos (by simp only [Option.getD_some]; omega)])
  clear hrn hy
  go_wp2_with fail
  refine (HWO.out _).mono ?_
  rintro e w3 ⟨rfl, rfl⟩
  go_wp2_with fail
  refine (must_no _ _).mono ?_
  rintro e w4 ⟨rfl, rfl⟩
  go_wp2_with fail
  exact ⟨rfl, by rw [HV.out]; exact DoE.no (r := Rs.no H sRange) (show ¬ sRange = sNone from by decide) (HS.of_ext HI0.out HW.out)⟩
 obtain ⟨hr1, hr2⟩ := Classical.not_not.1 hrn
 clear hrn
 have HWI := Lib.hid (fun (Z : World) => (within_any (p) 1 (n : Int) Z).mono (R' := fun e w' => e = .returned (.int .i64 (p)) ∧ Z = w') fun e w' h => ⟨by rw [h.1, show max 1 (min (p) (n : Int)) = p by omega], h.2⟩)
 go_wp2_with fail
 refine (HWI.out _).mono ?_
 rintro e w3 ⟨rfl, rfl⟩
 go_wp2_with fail
 refine (must_yes _ _).mono ?_
 rintro e w4 ⟨rfl, rfl⟩
 have hG := Lib.hid (fun (Z : World) (hZ : HeapIn Z g tv rs H) => get_any g tv rs H ⟨k0, n0, s0⟩ (iK (p)) Z hZ hlen ⟨by show (-9223372036854775808 : Int) ≤ p; omega, by show p ≤ (9223372036854775807 : Int); omega⟩)
 rw [getW_int hof] at hG
 obtain ⟨gv, hgv⟩ : ∃ gv, getV H ⟨k0, n0, s0⟩ (iK (p)) = gv := ⟨_, rfl⟩
 rw [hgv] at hG
 have HGV := Lib.hid hgv
 obtain ⟨gk, gn, gs⟩ := gv
 clear hgv HWI
 go_wp2_with fail
 go_upto_region 9 with (fail)
 go_cut [7] (fun s7 wx => ∃ bv : Nat, s7 = .pointer (some ⟨bv, 0, none⟩) ∧ w.heap.size < bv ∧ Hid (Blk wx bv 26 #[.int .i64 gk, .int .i64 gn, .string gs] ∧ Ext w1 wx))
 case first =>
  have hwW : w.heap.size < w1.heap.size := HB.out.lt
  have hnb : ¬ w1.heap.size = b := by omega
  have hnb2 : ¬ b = w1.heap.size := by omega
  go_region_held3 (fun w' => w'.cell? ⟨b, o, none⟩ = some (.int .i64 k0) ∧ w'.cell? ⟨b, o + 1, none⟩ = some (.int .i64 n0) ∧ w'.cell? ⟨b, o + 2, none⟩ = some (.string s0)) (go_keep)
   (first
    | (go_at_call 17; refine (int_any _ _).mono ?_; rintro e w3 ⟨rfl, e3⟩; have E3 := Lib.hid (show Ext w1 w3 from Ext.trans (by repeat (first | exact Ext.refl _ | refine Ext.drew ?_ | refine Ext.alloc ?_ _)) e3); have x0 := (E3.out.cells.1 _ _ hbW).trans c0; have x1 := (E3.out.cells.1 _ _ hbW).trans c1; have x2 := (E3.out.cells.1 _ _ hbW).trans c2; have L3 : b < w3.heap.size := Nat.lt_of_lt_of_le hbW E3.out.le; have nn3 : ¬ w3.heap.size = b := Nat.ne_of_gt L3; have nm3 : ¬ b = w3.heap.size := Nat.ne_of_lt L3; (try (have hq : Ext (World.alloc w1.drew (.cells #[.int .i64 0, .int .i64 0, .string ⟨#[]⟩] 26)) w3 := (by with_reducible exact e3); have ZA := Lib.hid (ZV.new w1.heap.size rfl hq); clear hq)); (try (have hq : Ext (World.drew (World.alloc w1 (.cells #[.int .i64 0, .int .i64 0, .string ⟨#[]⟩] 26))) w3 := (by with_reducible exact e3); have ZA := Lib.hid (ZV.newd w1.heap.size rfl hq); clear hq)); clear e3)
    | (go_at_call 39; refine (hG.out _ (by repeat (first | exact HI.out.ext E3.out | refine HeapIn.ext ?_ (Ext.alloc (Ext.refl _) _)))).mono ?_; rintro e w4 ⟨rfl, e4⟩; have E4 := Lib.hid (show Ext w1 w4 from Ext.trans (by repeat (first | exact E3.out | refine Ext.alloc ?_ _)) e4); have y0 := (E4.out.cells.1 _ _ hbW).trans c0; have y1 := (E4.out.cells.1 _ _ hbW).trans c1; have y2 := (E4.out.cells.1 _ _ hbW).trans c2; have L4 : b < w4.heap.size := Nat.lt_of_lt_of_le hbW E4.out.le; have nn4 : ¬ w4.heap.size = b := Nat.ne_of_gt L4; have nm4 : ¬ b = w4.heap.size := Nat.ne_of_lt L4; (try (have hz : Hid (ZV w3 w1.heap.size) := (by with_reducible assumption); have ZB := Lib.hid (hz.out.ext e4); clear hz)); (try (have hq : Ext (World.alloc w3 (.cells #[.int .i64 0, .int .i64 0, .string ⟨#[]⟩] 26)) w4 := (by with_reducible exact e4); have ZC := Lib.hid (ZV.new w3.heap.size rfl hq); clear hq)); clear e4)
    | (go_at_call 53; refine (got_yes ⟨gk, gn, gs⟩ _).mono ?_; rintro e w5 ⟨rfl, e5⟩; have E5 := Lib.hid (show Ext w1 w5 from Ext.trans (by repeat (first | exact E4.out | refine Ext.alloc ?_ _)) e5); have v0 := (E5.out.cells.1 _ _ hbW).trans c0; have v1 := (E5.out.cells.1 _ _ hbW).trans c1; have v2 := (E5.out.cells.1 _ _ hbW).trans c2; have L5 : b < w5.heap.size := Nat.lt_of_lt_of_le hbW E5.out.le; have nn5 : ¬ w5.heap.size = b := Nat.ne_of_gt L5; have nm5 : ¬ b = w5.heap.size := Nat.ne_of_lt L5; (try (have hz : Hid (ZV w4 w1.heap.size) := (by with_reducible assumption); have ZZ := Lib.hid (hz.out.ext e5); obtain ⟨zl, zv0, zv1, zv2, zf0, zf1, zf2⟩ := ZZ.out.facts; clear hz)); (try (have hz : Hid (ZV w4 w3.heap.size) := (by with_reducible assumption); have ZZ := Lib.hid (hz.out.ext e5); obtain ⟨zl, zv0, zv1, zv2, zf0, zf1, zf2⟩ := ZZ.out.facts; clear hz)); (try (have hq : Ext (World.alloc w4 (.cells #[.int .i64 0, .int .i64 0, .string ⟨#[]⟩] 26)) w5 := (by with_reducible exact e5); have ZZ := Lib.hid (ZV.new w4.heap.size rfl hq); obtain ⟨zl, zv0, zv1, zv2, zf0, zf1, zf2⟩ := ZZ.out.facts; clear hq)); clear e5))
  all_goals go_wp2_with fail
  all_goals (
   go_meet
   first
    | exact ⟨_, rfl, hwW, Lib.hid ⟨put3 ZZ.out _ _ _, ((E5.out.setCell (Nat.le_refl _) _).setCell (Nat.le_refl _) _).setCell (Nat.le_refl _) _⟩⟩
    | exact ⟨_, rfl, Nat.lt_of_lt_of_le hwW E3.out.le, Lib.hid ⟨put3 ZZ.out _ _ _, ((E5.out.setCell E3.out.le _).setCell E3.out.le _).setCell E3.out.le _⟩⟩
    | exact ⟨_, rfl, Nat.lt_of_lt_of_le hwW E4.out.le, Lib.hid ⟨put3 ZZ.out _ _ _, ((E5.out.setCell E4.out.le _).setCell E4.out.le _).setCell E4.out.le _⟩⟩
    | exact ⟨_, rfl, Nat.lt_of_lt_of_le hwW E5.out.le, Lib.hid ⟨Blk.new _ _ _, E5.out.alloc _⟩⟩)
 case rest =>
  obtain ⟨bv, rfl, hbv, HX⟩ := hcut
  obtain ⟨wx, rfl⟩ : ∃ wx : World, wx = wc := ⟨_, rfl⟩
  have EX := Lib.hid (HW.out.trans HX.out.2)
  have HIx := Lib.hid (HI.out.ext HX.out.2)
  have HBx := Lib.hid (HB.out.ext HX.out.2)
  have BV := Lib.hid HX.out.1
  clear HX HI HB HW hG c0 c1 c2 hbW e1
  obtain ⟨r0, hr0⟩ : ∃ r0, dnP ⟨k0, n0, s0⟩ (n : Int) ((n : Int) - (p)).toNat H = r0 := ⟨_, rfl⟩
  have hfin := dn_get ⟨k0, n0, s0⟩ (n : Int) (by omega) ((n : Int) - (p)).toNat H HI0.out.ok hof (by omega) (fun i h3 h4 => by have h5 := tlen_some HTB.out i (by omega) (by rw [HTN.out]; omega); exact h5)
  have hf0 := hfin.1
  have hf3 : ¬ (tget (tabOf (dnP ⟨k0, n0, s0⟩ (n : Int) ((n : Int) - (p)).toNat H).1 ⟨k0, n0, s0⟩) (iK n)).k = 0 := by
   rw [hfin.2.2.2.1, if_neg (by omega)]
   exact tlen_some HTB.out n (by omega) (by rw [HTN.out]; omega)
  rw [hr0] at hf0 hf3
  have HS0 : Hid (r = .ok (setH r0.1 ⟨k0, n0, s0⟩ (iK n) Vl.zero) ⟨gk, gn, gs⟩ ∧ setW r0.1 ⟨k0, n0, s0⟩ (iK n) Vl.zero = sNone) := Lib.hid (by
   have hof0 : ofW r0.1 ⟨k0, n0, s0⟩ = sNone := by rw [← hr0]; exact hfin.2.2.1
   have hw0 : setW r0.1 ⟨k0, n0, s0⟩ (iK n) Vl.zero = sNone := setW_old hof0 ck_zero (.inr rfl)
   refine ⟨?_, hw0⟩
   rw [← HR.out]
   unfold removeR
   simp only [HNN.out, Option.getD_some, Option.getD_none]
   rw [if_neg (by rintro ⟨h1, h2⟩; first | omega | cases h1), if_neg (by omega), hr0, if_pos hf0, if_pos hw0, HGV.out])
  have hU : DnI w wx g tv rs H ⟨k0, n0, s0⟩ ⟨gk, gn, gs⟩ (n : Int) r0 bv ((n : Int) - (p)).toNat H := ⟨HIx.out, .of_ext EX.out, rfl, hof, hr0, hf0, hbv, BV.out, HBx.out⟩
  have HU := Lib.hid hU
  clear hU hr0 hfin hf0 hf3 BV HIx HBx
  go_wp2_with fail
  go_loopw [8] (fun v8 wr => ∃ (i : Int) (k : Nat) (Hc : Hp), v8 = .int .i64 i ∧ Hid (i = n - k) ∧ p ≤ i ∧ i ≤ n ∧ Hid (DnI w wr g tv rs H ⟨k0, n0, s0⟩ ⟨gk, gn, gs⟩ (n : Int) r0 bv k Hc)) (fun v8 _ => ((n : Int) - intOf v8).toNat)
  case atStart => exact ⟨p, _, H, rfl, Lib.hid (by omega), by omega, by omega, HU⟩
  case round =>
   obtain ⟨i, k, Hc, rfl, hik, hi1, hi2, HUP⟩ := hrel
   have hbr : b < wr.heap.size := Nat.lt_of_lt_of_le hb HUP.out.touch.size
   have aa := HA0.out.of (HUP.out.touch.block b hb nb)
   have c0 := aa.k
   have c1 := aa.n
   have c2 := aa.s
   simp only at c0 c1 c2
   clear aa
   by_cases hge : i < (n : Int)
   ·have hd : decide (i < (n : Int)) = true := decide_eq_true hge
    obtain ⟨k, rfl⟩ : ∃ k', k = k' + 1 := ⟨k - 1, by have := hik.out; omega⟩
    have HIK : Hid (i = n - (k + 1 : Nat)) := Lib.hid hik.out
    have hs := HUP.out.set HIK.out
    have hG := Lib.hid (fun (Z : World) (hZ : HeapIn Z g tv rs Hc) => get_any g tv rs Hc ⟨k0, n0, s0⟩ (iK (i + 1)) Z hZ (by rw [HUP.out.len]; exact hlen) ⟨by show (-9223372036854775808 : Int) ≤ i + 1; omega, by show i + 1 ≤ 9223372036854775807; omega⟩)
    rw [getW_int HUP.out.of] at hG
    have hS := Lib.hid (fun (Z : World) (hZ : HeapIn Z g tv rs Hc) => lset_any g tv rs Hc ⟨k0, n0, s0⟩ i (getV Hc ⟨k0, n0, s0⟩ (iK (i + 1))) Z hZ (by rw [HUP.out.len]; exact hlen) ⟨by omega, by omega⟩ (getV_ok HUP.out.heap.ok _ _).1)
    have hST : Hid (∀ (Z w' : World), Ext wr Z → SetE Z g tv rs Hc ⟨k0, n0, s0⟩ i (getV Hc ⟨k0, n0, s0⟩ (iK (i + 1))) (.returned (.tuple #[])) w' → DnI w w' g tv rs H ⟨k0, n0, s0⟩ ⟨gk, gn, gs⟩ (n : Int) r0 bv k (setH Hc ⟨k0, n0, s0⟩ (iK i) (getV Hc ⟨k0, n0, s0⟩ (iK (i + 1))))) :=
     Lib.hid (fun Z w' hZ hE => HUP.out.go HIK.out HNF.out hE.heap (Touch.pre hZ hE.touch))
    have HG := Lib.hid (HUP.out.heap)
    obtain ⟨qv, hqv⟩ : ∃ qv, getV Hc ⟨k0, n0, s0⟩ (iK (i + 1)) = qv := ⟨_, rfl⟩
    rw [hqv] at hG hS hST hs
    have HSN := Lib.hid hs
    obtain ⟨qk, qn, qs⟩ := qv
    have hwr : IntKind.i64.wrap (i + 1) = i + 1 := IntWalk.i64_in _ (by omega)
    clear hqv hs hge hik HUP
    go_wp2_with fail
    go_region_held3 (fun w' => w'.cell? ⟨b, o, none⟩ = some (.int .i64 k0) ∧ w'.cell? ⟨b, o + 1, none⟩ = some (.int .i64 n0) ∧ w'.cell? ⟨b, o + 2, none⟩ = some (.string s0)) (go_keep)
     (first
      | (go_at_call 17; refine (int_any _ _).mono ?_; rintro e w3 ⟨rfl, e3⟩; have E3 := Lib.hid (show Ext wr w3 from Ext.trans (by repeat (first | exact Ext.refl _ | refine Ext.drew ?_)) e3); have x0 := (E3.out.cells.1 _ _ hbr).trans c0; have x1 := (E3.out.cells.1 _ _ hbr).trans c1; have x2 := (E3.out.cells.1 _ _ hbr).trans c2; clear e3)
      | (go_at_call 39; refine (hG.out _ (HG.out.ext E3.out)).mono ?_; rintro e w4 ⟨rfl, e4⟩; have E4 := Lib.hid (E3.out.trans e4); have y0 := (E4.out.cells.1 _ _ hbr).trans c0; have y1 := (E4.out.cells.1 _ _ hbr).trans c1; have y2 := (E4.out.cells.1 _ _ hbr).trans c2; clear e4)
      | (go_at_call 53; refine (got_yes ⟨qk, qn, qs⟩ _).mono ?_; rintro e w5 ⟨rfl, e5⟩; have E5 := Lib.hid (E4.out.trans e5); have z0 := (E5.out.cells.1 _ _ hbr).trans c0; have z1 := (E5.out.cells.1 _ _ hbr).trans c1; have z2 := (E5.out.cells.1 _ _ hbr).trans c2; clear e5)
      | (go_at_call 103; refine (hS.out _ (HG.out.ext E5.out)).mono ?_; intro e w6 hE; obtain rfl := hE.yes HSN.out; have U6 := Lib.hid (hST.out _ _ E5.out hE); have q0 := (hE.touch.cells.1 b o (Nat.lt_of_lt_of_le hbr E5.out.le) nb).trans z0; have q1 := (hE.touch.cells.1 b (o + 1) (Nat.lt_of_lt_of_le hbr E5.out.le) nb).trans z1; have q2 := (hE.touch.cells.1 b (o + 2) (Nat.lt_of_lt_of_le hbr E5.out.le) nb).trans z2; clear hE))
    all_goals go_wp2_with fail
    all_goals (
     go_roundw
     case rel => exact ⟨i + 1, k, _, rfl, Lib.hid (by have := HIK.out; omega), by omega, by have := HIK.out; omega, U6⟩
     case measure => have := HIK.out; simp [intOf]; omega)
   ·have hd : decide (i < (n : Int)) = false := decide_eq_false hge
    obtain rfl : k = 0 := by have := hik.out; omega
    have hr0 : r0 = (Hc, sNone) := HUP.out.spec.symm
    obtain ⟨bl, w0, w1, w2⟩ := (⟨HUP.out.box.lt, HUP.out.box.cell 0, HUP.out.box.cell 1, HUP.out.box.cell 2⟩ : bv < wr.heap.size ∧ wr.cell? ⟨bv, 0, none⟩ = some (.int .i64 gk) ∧ wr.cell? ⟨bv, 1, none⟩ = some (.int .i64 gn) ∧ wr.cell? ⟨bv, 2, none⟩ = some (.string gs))
    have nbv : ¬ Foot g tv rs bv := HNF.out bv (Nat.le_of_lt hbv)
    have hS := Lib.hid (fun (Z : World) (hZ : HeapIn Z g tv rs Hc) => lset_any g tv rs Hc ⟨k0, n0, s0⟩ (n : Int) Vl.zero Z hZ (by rw [HUP.out.len]; exact hlen) ⟨by omega, by omega⟩ ⟨by decide, by decide⟩)
    have hrr := HS0.out
    rw [hr0] at hrr
    have HRR := Lib.hid hrr
    have HG := Lib.hid HUP.out.heap
    have HT := Lib.hid HUP.out.touch
    have HRS := Lib.hid HUP.out.res
    clear hrr hr0 HS0 HUP hge hik hlen
    go_wp2_with fail
    refine (hS.out _ HG.out).mono ?_
    intro e w6 hE
    obtain rfl := hE.yes HRR.out.2
    have T6 := Lib.hid (show HeapIn w6 g tv rs _ ∧ Touch (Foot g tv rs) wr w6 from ⟨hE.heap, hE.touch⟩)
    have r0 := (T6.out.2.cells.1 bv 0 bl nbv).trans w0
    have r1 := (T6.out.2.cells.1 bv 1 bl nbv).trans w1
    have r2 := (T6.out.2.cells.1 bv 2 bl nbv).trans w2
    clear hE w0 w1 w2
    obtain ⟨z0, z1, z2, y0, y1, y2⟩ := three (show Blk w6 w.heap.size 26 #[.int .i64 0, .int .i64 0, .string ⟨#[]⟩] from (T6.out.2.block _ HRS.out.lt HN.out).trans HRS.out)
    have hlt6 : w.heap.size < w6.heap.size := Nat.lt_of_lt_of_le HRS.out.lt T6.out.2.size
    go_wp2_with fail
    exact bodyPost_ret (v := (⟨gk, gn, gs⟩ : Vl).v) (by simp [results, Tryz.results71, go_sem, *]) rfl (by rw [HRR.out.1]; exact DoE.yes (r := .ok (setH Hc ⟨k0, n0, s0⟩ (iK n) Vl.zero) ⟨gk, gn, gs⟩) rfl ((HS.of_touch T6.out.1 (HT.out.trans T6.out.2)).set3 (Nat.le_refl _) HN.out _ _ _))
end Go.Proofs.YtfagldjhibdfhaaGreatDoor
namespace Go.Proofs.YtfagldjhibdfhaaGreatDoor
open Go.RowKit
set_option linter.unusedVariables false
set_option linter.unusedSimpArgs false

theorem table_step (g : Nat) (tv : Value) (rs : List (Nat × Nat)) (H : Hp) (w : World) (h : HeapIn w g tv rs H) (hn : H.tabs.length ≤ 1000000000000) :
  Calls Tryz.prog 18 #[.pointer (some ⟨g, 0, none⟩)] w fun e w' => e = .returned (.tuple #[(tabV H).v, .string (tabW H)]) ∧ ∃ tv' rs', HS w g tv rs w' tv' rs' (tabH H) := by
 by_cases hm : 1 ≤ H.cells - H.spent
 ·refine (table_yes g tv rs H w h hm hn).mono ?_
  rintro e w' ⟨rfl, tv', rs', h1, h2, h3⟩
  unfold tabV tabW tabH
  rw [if_pos hm, if_pos hm, if_pos hm]
  exact ⟨rfl, tv', rs', h1, h2, h3⟩
 ·refine (table_no g tv rs H w h hm).mono ?_
  rintro e w' ⟨rfl, h1, h2⟩
  unfold tabV tabW tabH
  rw [if_neg hm, if_neg hm, if_neg hm]
  exact ⟨rfl, tv, rs, .of_touch h1 h2⟩
structure KyI (w wr : World) (g : Nat) (tv tv' : Value) (rs rs' : List (Nat × Nat)) (N : Nat) (t : Vl) (ks : List Vl) (r : Hp × ByteArray) (bv : Nat) (vr : Value) (i : Nat) (Hc : Hp) : Prop where
 hs : HS w g tv rs wr tv' rs' Hc
 len : Hc.tabs.length = N
 spec : putP t (ks.drop i) ((i : Int) + 1) Hc = r
 box : Blk wr bv 26 #[.int .i64 t.k, .int .i64 t.n, .string t.s]
 res : Blk wr w.heap.size 26 #[.int .i64 0, .int .i64 0, .string ⟨#[]⟩]
 row : RowAt wr vr ks
 n1 : ¬ Foot g tv' rs' bv
 n2 : ¬ Foot g tv' rs' w.heap.size
 n3 : ∀ k, vr.ownBlock = some k → ¬ Foot g tv' rs' k
theorem RowAt.own_lt {w : World} {v : Value} {l : List Vl} (h : RowAt w v l) {k : Nat} (hk : v.ownBlock = some k) : k < w.heap.size := (h.lt k hk).1
theorem KyI.step {w wr Z w' : World} {g : Nat} {tv tv' : Value} {rs rs' : List (Nat × Nat)} {N : Nat} {t x : Vl} {ks : List Vl} {r : Hp × ByteArray} {bv : Nat} {vr : Value} {i : Nat} {Hc : Hp} (h : KyI w wr g tv tv' rs rs' N t ks r bv vr i Hc) (hx : ks[i]? = some x)
  (hZ : Ext wr Z) (hh : HeapIn w' g tv' rs' (setH Hc t (iK ((i : Int) + 1)) x)) (ht : Touch (Foot g tv' rs') Z w') (hw : setW Hc t (iK ((i : Int) + 1)) x = sNone) : KyI w w' g tv tv' rs rs' N t ks r bv vr (i + 1) (setH Hc t (iK ((i : Int) + 1)) x) := by
 have ht2 := Touch.pre hZ ht
 refine ⟨h.hs.trans (.of_touch hh ht2), by rw [setH_len]; exact h.len, ?_, (ht2.block _ h.box.lt h.n1).trans h.box, (ht2.block _ h.res.lt h.n2).trans h.res, h.row.of_heap fun k hk => ht2.block k (h.row.own_lt hk) (h.n3 k hk), h.n1, h.n2, h.n3⟩
 have hs := h.spec
 obtain ⟨hl, he⟩ := List.getElem?_eq_some_iff.1 hx
 rw [List.drop_eq_getElem_cons hl, he] at hs
 unfold putP at hs
 rw [if_pos hw] at hs
 rw [← hs]
 congr 1
theorem KyI.stop {w wr : World} {g : Nat} {tv tv' : Value} {rs rs' : List (Nat × Nat)} {N : Nat} {t x : Vl} {ks : List Vl} {r : Hp × ByteArray} {bv : Nat} {vr : Value} {i : Nat} {Hc : Hp} (h : KyI w wr g tv tv' rs rs' N t ks r bv vr i Hc) (hx : ks[i]? = some x)
  (hw : ¬ setW Hc t (iK ((i : Int) + 1)) x = sNone) : r = (Hc, setW Hc t (iK ((i : Int) + 1)) x) := by
 have hs := h.spec
 obtain ⟨hl, he⟩ := List.getElem?_eq_some_iff.1 hx
 rw [List.drop_eq_getElem_cons hl, he] at hs
 unfold putP at hs
 rw [if_neg hw] at hs
 exact hs.symm
set_option maxRecDepth 100000 in
set_option maxHeartbeats 1600000 in
theorem keys_do (g : Nat) (tv : Value) (rs : List (Nat × Nat)) (H : Hp) (w : World) (h : HeapIn w g tv rs H) (hlen : H.tabs.length ≤ 1000000000) (b o cap : Nat) (x0 : Vl) (hof : ofW H x0 = sNone) (a0 : ArgAt w b o x0) (nb : ¬ Foot g tv rs b) :
  Calls Tryz.prog 72 #[.pointer (some ⟨g, 0, none⟩), .slice (some ⟨b, o, none⟩) 1 cap] w (DoE w g tv rs (keyTR H x0)) := by
 have HI0 := Lib.hid h
 have hT := tabOf_ok h.ok (ofW_none hof).2.2.2.2
 have hks : keysV H x0 = keysL (tabOf H x0) := by unfold keysV; rw [if_pos hof]
 obtain ⟨ks, hkk⟩ : ∃ ks, keysV H x0 = ks := ⟨_, rfl⟩
 have hkl : ks.length ≤ 65536 := by rw [← hkk, hks, keysL_len hT]; exact hT.most
 have HKO : Hid (∀ k ∈ ks, in64 k.n) := Lib.hid (fun k hk => (keysL_ok hT k (by rw [← hks, hkk]; exact hk)).num)
 have HI := Lib.hid (h.alloc (.cells #[.int .i64 0, .int .i64 0, .string ⟨#[]⟩] 26))
 have HB := Lib.hid (Blk.new w 26 #[.int .i64 0, .int .i64 0, .string ⟨#[]⟩])
 have HN : Hid (¬ Foot g tv rs w.heap.size) := Lib.hid (fun hx => Nat.lt_irrefl _ (h.low hx))
 have HW := Lib.hid ((Ext.refl w).alloc (.cells #[.int .i64 0, .int .i64 0, .string ⟨#[]⟩] 26))
 have cK := Lib.hid (keys_any g tv rs H x0 _ HI.out (by omega))
 obtain ⟨r, hr⟩ : ∃ r, keyTR H x0 = r := ⟨_, rfl⟩
 rw [hr]
 have HR := Lib.hid hr
 rw [hkk, hof] at cK
 have HKK := Lib.hid hkk
 have HOF := Lib.hid hof
 obtain ⟨k0, n0, s0⟩ := x0
 have c0 := a0.k
 have c1 := a0.n
 have c2 := a0.s
 simp only at c0 c1 c2
 have hb := a0.lt
 have hq : sNone.toList = [] := sNone_list
 clear hr h a0 hks hkk hT hof
 go_enter Tryz.func72, Tryz.ntmps72
 go_wp2_with fail
 refine cK.out.mono ?_
 rintro e w1 ⟨vr, rfl, hrow, e1⟩
 rw [size_alloc] at hrow
 have HRW := Lib.hid hrow.at0
 have HRL : Hid (∀ k, vr.ownBlock = some k → w.heap.size < k ∧ k < w1.heap.size) := Lib.hid (fun k hk => ⟨(hrow.lt k hk).1, (hrow.at0.lt k hk).1⟩)
 obtain ⟨qv, cv, hvr⟩ := hrow.at0.slice
 subst hvr
 have W1 := Lib.hid (HW.out.trans e1)
 replace HI := Lib.hid (HI.out.ext e1)
 replace HB := Lib.hid (HB.out.ext e1)
 replace HW := Lib.hid W1.out
 clear W1 e1
 clear hrow cK c0 c1 c2
 go_wp2_with fail
 refine (must_yes _ _).mono ?_
 rintro e w2 ⟨rfl, rfl⟩
 go_wp2_with fail
 refine (table_step g tv rs H _ HI.out (by omega)).mono ?_
 rintro e w3 ⟨rfl, tv', rs', s3⟩
 have S3 := Lib.hid (HS.pre HW.out s3)
 have B3 := Lib.hid (HB.out.step s3 HN.out)
 have N2 : Hid (¬ Foot g tv' rs' w.heap.size) := Lib.hid (s3.notin HB.out.lt HN.out)
 have N3 : Hid (∀ k, (Value.slice qv ks.length cv).ownBlock = some k → ¬ Foot g tv' rs' k) := Lib.hid (fun k hk => s3.notin (HRL.out k hk).2 (fun hf => by have h1 := HI0.out.low hf; have h2 := (HRL.out k hk).1; omega))
 have R3 : Hid (RowAt w3 (.slice qv ks.length cv) ks) := Lib.hid (HRW.out.of_heap fun k hk => s3.touch.block k (HRL.out k hk).2 (fun hf => by have h1 := HI0.out.low hf; have h2 := (HRL.out k hk).1; omega))
 clear s3 HI HB HRW
 obtain ⟨tw, htw⟩ : ∃ tw, tabW H = tw := ⟨_, rfl⟩
 rw [htw]
 have HTW := Lib.hid htw
 have hc := Decidable.em (tw = sNone)
 clear htw
 rcases hc with hs | hs
 ·have HS1 := Lib.hid hs
  rw [hs]
  clear hs
  go_wp2_with fail
  refine (got_yes (tabV H) _).mono ?_
  rintro e w4 ⟨rfl, e4⟩
  have S4 := Lib.hid (S3.out.ext e4)
  have B4 := Lib.hid (B3.out.ext e4)
  have R4 := Lib.hid (R3.out.ext e4)
  clear S3 B3 R3 e4
  go_wp2_with fail
  obtain ⟨tt, htt⟩ : ∃ tt, tabV H = tt := ⟨_, rfl⟩
  have HTT := Lib.hid htt
  obtain ⟨tk, tn, ts⟩ := tt
  rw [htt]
  obtain ⟨r0, hr0⟩ : ∃ r0, putP ⟨tk, tn, ts⟩ ks 1 (tabH H) = r0 := ⟨_, rfl⟩
  have HRR : Hid (r = if r0.2 = sNone then .ok r0.1 ⟨tk, tn, ts⟩ else .no r0.1 r0.2) := Lib.hid (by
   rw [← HR.out]
   unfold keyTR
   rw [if_pos HOF.out, if_pos (by rw [HTW.out]; exact HS1.out)]
   simp only [HTT.out, HKK.out, hr0])
  have hN : ¬ Foot g tv' rs' w4.heap.size := fun hf => by have := S4.out.heap.low hf; omega
  have HU : Hid (KyI w (w4.alloc (.cells #[.int .i64 tk, .int .i64 tn, .string ts] 26)) g tv tv' rs rs' (tabH H).tabs.length ⟨tk, tn, ts⟩ ks r0 w4.heap.size (.slice qv ks.length cv) 0 (tabH H)) :=
   Lib.hid ⟨S4.out.ext ((Ext.refl _).alloc _), rfl, by rw [List.drop_zero]; exact hr0, Blk.new _ _ _, B4.out.alloc _, R4.out.ext ((Ext.refl _).alloc _), hN, N2.out, N3.out⟩
  have htl : (tabH H).tabs.length ≤ 1000000001 := by
   unfold tabH
   split
   ·show (H.tabs ++ [[]]).length ≤ _
    rw [List.length_append]; simp; omega
   ·omega
  clear htt hr0 B4 R4 hN S4
  go_wp2_with fail
  generalize w4.alloc (.cells #[.int .i64 tk, .int .i64 tn, .string ts] 26) = w5 at HU ⊢
  obtain ⟨bv, hbv⟩ : ∃ bv, w4.heap.size = bv := ⟨_, rfl⟩
  rw [hbv] at HU ⊢
  clear hbv
  go_loopw [29] (fun v29 wr => ∃ (i : Nat) (Hc : Hp), v29 = .int .i64 (i : Int) ∧ i ≤ ks.length ∧ Hid (KyI w wr g tv tv' rs rs' (tabH H).tabs.length ⟨tk, tn, ts⟩ ks r0 bv (.slice qv ks.length cv) i Hc)) (fun v29 _ => ks.length - (intOf v29).toNat)
  case atStart => exact ⟨0, _, rfl, Nat.zero_le _, HU⟩
  case round =>
   obtain ⟨i, Hc, rfl, hi, HK⟩ := hrel
   obtain ⟨bl, b0, b1, b2⟩ := (⟨HK.out.box.lt, HK.out.box.cell 0, HK.out.box.cell 1, HK.out.box.cell 2⟩ : bv < wr.heap.size ∧ wr.cell? ⟨bv, 0, none⟩ = some (.int .i64 tk) ∧ wr.cell? ⟨bv, 1, none⟩ = some (.int .i64 tn) ∧ wr.cell? ⟨bv, 2, none⟩ = some (.string ts))
   by_cases hlt : i < ks.length
   ·obtain ⟨x, hx⟩ : ∃ x, ks[i]? = some x := ⟨_, List.getElem?_eq_getElem hlt⟩
    obtain ⟨kb, kc, ekv, hkb, d0, d1, d2⟩ := HK.out.row.cells i x hx
    obtain ⟨rfl, rfl⟩ : qv = some ⟨kb, 0, none⟩ ∧ cv = kc := by injection ekv with h1 _ h3; exact ⟨h1, h3⟩
    have hd : decide ((i : Int) < (ks.length : Int)) = true := decide_eq_true (by omega)
    have hd' : decide (i < ks.length) = true := decide_eq_true hlt
    have hxn := HKO.out x (List.mem_of_getElem? hx)
    have hS := Lib.hid (fun (Z : World) (hZ : HeapIn Z g tv' rs' Hc) => lset_any g tv' rs' Hc ⟨tk, tn, ts⟩ ((i : Int) + 1) x Z hZ (by rw [HK.out.len]; omega) ⟨by omega, by omega⟩ hxn)
    obtain ⟨st, hst⟩ : ∃ st, setW Hc ⟨tk, tn, ts⟩ (iK ((i : Int) + 1)) x = st := ⟨_, rfl⟩
    have HST := Lib.hid hst
    have HX := Lib.hid hx
    obtain ⟨xk, xn, xs⟩ := x
    simp only at d0 d1 d2
    have hh := Lib.hid HK.out.hs.heap
    have hc := Decidable.em (st = sNone)
    clear ekv hx hst hxn
    go_wp2_with fail
    rcases hc with hs | hs
    ·refine (hS.out _ (hh.out.alloc _)).mono ?_
     intro e w6 hE
     obtain rfl := hE.yes (HST.out.trans hs)
     have U6 := Lib.hid (HK.out.step HX.out ((Ext.refl wr).alloc _) hE.heap hE.touch (HST.out.trans hs))
     clear hE hs hS b0 b1 b2 d0 d1 d2
     go_wp2_with fail
     go_roundw
     case rel => exact ⟨i + 1, _, by go_num, by omega, U6⟩
     case measure => simp [intOf]; omega
    ·refine (hS.out _ (hh.out.alloc _)).mono ?_
     intro e w6 hE
     have h0 := hE.no (by rw [HST.out]; exact hs)
     rw [HST.out] at h0
     obtain rfl : e = .panicked [{ v := failV st, recovered := false }] := h0
     have hst := HK.out.stop HX.out (by rw [HST.out]; exact hs)
     rw [HST.out] at hst
     have HV : Hid (r = Rs.no Hc st) := Lib.hid (by rw [HRR.out, hst]; simp only []; rw [if_neg hs])
     have T6 := Lib.hid (show HeapIn w6 g tv' rs' Hc ∧ Touch (Foot g tv' rs') wr w6 from ⟨by have h1 := hE.heap; rw [setH_no (by rw [HST.out]; exact hs)] at h1; exact h1, Touch.pre ((Ext.refl wr).alloc _) hE.touch⟩)
     clear hE hst
     go_wp2_with fail
     exact ⟨rfl, by rw [HV.out]; exact DoE.no (r := Rs.no Hc st) hs (HK.out.hs.trans (.of_touch T6.out.1 T6.out.2))⟩
   ·obtain rfl : i = ks.length := by omega
    have hd : decide ((ks.length : Int) < (ks.length : Int)) = false := decide_eq_false (by omega)
    have hd' : decide (ks.length < ks.length) = false := decide_eq_false (by omega)
    have hst : r0 = (Hc, sNone) := by
     have h1 := HK.out.spec
     rw [List.drop_length] at h1
     exact h1.symm
    have HV : Hid (r = .ok Hc ⟨tk, tn, ts⟩) := Lib.hid (by rw [HRR.out, hst]; simp only [if_pos])
    obtain ⟨z0, z1, z2, y0, y1, y2⟩ := three HK.out.res
    have hlt6 := HK.out.res.lt
    clear hst
    go_wp2_with fail
    exact bodyPost_ret (v := (⟨tk, tn, ts⟩ : Vl).v) (by simp [results, Tryz.results72, go_sem, *]) rfl (by rw [HV.out]; exact DoE.yes (r := .ok Hc ⟨tk, tn, ts⟩) rfl (HK.out.hs.set3 (Nat.le_refl _) HK.out.n2 _ _ _))
 ·have HV : Hid (r = Rs.no H tw) := Lib.hid (by
   rw [← HR.out]
   unfold keyTR
   rw [if_pos HOF.out, if_neg (by rw [HTW.out]; exact hs), HTW.out])
  have HTH : Hid (tabH H = H) := Lib.hid (by
   unfold tabH
   have h1 := HTW.out
   unfold tabW at h1
   split
   ·rename_i hm
    rw [if_pos hm] at h1
    exact absurd h1.symm hs
   ·rfl)
  go_wp2_with fail
  refine (got_no (tabV H) tw hs _).mono ?_
  rintro e w4 ⟨rfl, e4⟩
  go_wp2_with fail
  exact ⟨rfl, by rw [HV.out]; exact DoE.no (r := Rs.no H tw) hs (by have h1 := S3.out.ext e4; rw [HTH.out] at h1; exact h1)⟩
end Go.Proofs.YtfagldjhibdfhaaGreatDoor
