/- The library's insert. -/
import Derived.Test.YtfagldjhibdfhaaGreatDoorYA8
import Derived.Test.YtfagldjhibdfhaaGreatDoorYA9
import Derived.Test.YtfagldjhibdfhaaGreatDoorYA6
import Derived.Deep.DeepCutAuto
import Derived.Deep.CutBlock
namespace Go.Proofs.YtfagldjhibdfhaaGreatDoor
open Go.RowKit
set_option linter.unusedVariables false
set_option linter.unusedSimpArgs false

theorem put3 {w : World} {b : Nat} {t : TypeId} {a0 a1 a2 : Value} (h : Blk w b t #[a0, a1, a2]) (u0 u1 u2 : Value) : Blk (((w.setCell ⟨b, 0, none⟩ u0).setCell ⟨b, 1, none⟩ u1).setCell ⟨b, 2, none⟩ u2) b t #[u0, u1, u2] := by
 simpa using ((h.set_ 0 u0).set_ 1 u1).set_ 2 u2
structure UpI (w wr : World) (g : Nat) (tv : Value) (rs : List (Nat × Nat)) (H : Hp) (t v : Vl) (a : Int) (r : Hp × ByteArray) (bv k : Nat) (Hc : Hp) : Prop where
 heap : HeapIn wr g tv rs Hc
 touch : Touch (Foot g tv rs) w wr
 len : Hc.tabs.length = H.tabs.length
 of : ofW Hc t = sNone
 spec : upP t a k Hc = r
 low : w.heap.size < bv
 box : Blk wr bv 26 #[.int .i64 v.k, .int .i64 v.n, .string v.s]
 res : Blk wr w.heap.size 26 #[.int .i64 0, .int .i64 0, .string ⟨#[]⟩]
theorem UpI.go {w wr w' : World} {g : Nat} {tv : Value} {rs : List (Nat × Nat)} {H : Hp} {t v : Vl} {a i : Int} {r : Hp × ByteArray} {bv k : Nat} {Hc : Hp} (h : UpI w wr g tv rs H t v a r bv (k + 1) Hc) (hi : i = a + k) (hs : setW Hc t (iK (i + 1)) (getV Hc t (iK i)) = sNone)
  (hn : ∀ x, w.heap.size ≤ x → ¬ Foot g tv rs x) (hh : HeapIn w' g tv rs (setH Hc t (iK (i + 1)) (getV Hc t (iK i)))) (ht : Touch (Foot g tv rs) wr w') : UpI w w' g tv rs H t v a r bv k (setH Hc t (iK (i + 1)) (getV Hc t (iK i))) :=
 ⟨hh, h.touch.trans ht, by rw [setH_len]; exact h.len, by rw [ofW_set]; exact h.of, by
  have hs2 := h.spec
  unfold upP at hs2
  rw [hi] at hs ⊢
  rw [if_pos hs] at hs2
  exact hs2, h.low, (ht.block _ h.box.lt (hn _ (Nat.le_of_lt h.low))).trans h.box, (ht.block _ h.res.lt (hn _ (Nat.le_refl _))).trans h.res⟩
theorem UpI.stop {w wr : World} {g : Nat} {tv : Value} {rs : List (Nat × Nat)} {H : Hp} {t v : Vl} {a i : Int} {r : Hp × ByteArray} {bv k : Nat} {Hc : Hp} (h : UpI w wr g tv rs H t v a r bv (k + 1) Hc) (hi : i = a + k) (hs : ¬ setW Hc t (iK (i + 1)) (getV Hc t (iK i)) = sNone) :
  r = (Hc, setW Hc t (iK (i + 1)) (getV Hc t (iK i))) := by
 have hs2 := h.spec
 unfold upP at hs2
 rw [hi] at hs ⊢
 rw [if_neg hs] at hs2
 exact hs2.symm
set_option maxRecDepth 100000 in
set_option maxHeartbeats 1600000 in
theorem insert2_do (g : Nat) (tv : Value) (rs : List (Nat × Nat)) (H : Hp) (w : World) (h : HeapIn w g tv rs H) (hlen : H.tabs.length ≤ 9223372036854775807) (b o cap : Nat) (x0 x1 : Vl) (hof : ofW H x0 = sNone) (hv : in64 x1.n) (a0 : ArgAt w b o x0) (a2 : ArgAt w b (o + 3) x1) (nb : ¬ Foot g tv rs b) :
  Calls Tryz.prog 70 #[.pointer (some ⟨g, 0, none⟩), .slice (some ⟨b, o, none⟩) 2 cap] w (DoE w g tv rs (insertR H x0 (lenV H x0 + 1) x1)) := by
 have HI0 := Lib.hid h
 have hT := tabOf_ok h.ok (ofW_none hof).2.2.2.2
 have hl0 := (lenV_tab hof).1
 have hmost := Nat.le_trans (tlen_le hT) hT.most
 obtain ⟨n, hn⟩ : ∃ n : Nat, lenV H x0 = (n : Int) := ⟨_, hl0⟩
 have hn2 : n ≤ 65536 := by omega
 have HI := Lib.hid (h.alloc (.cells #[.int .i64 0, .int .i64 0, .string ⟨#[]⟩] 26))
 have HB := Lib.hid (Blk.new w 26 #[.int .i64 0, .int .i64 0, .string ⟨#[]⟩])
 have HN : Hid (¬ Foot g tv rs w.heap.size) := Lib.hid (fun hx => Nat.lt_irrefl _ (h.low hx))
 have HW := Lib.hid ((Ext.refl w).alloc (.cells #[.int .i64 0, .int .i64 0, .string ⟨#[]⟩] 26))
 have cL := Lib.hid (fun (W : World) (hW : HeapIn W g tv rs H) => hn ▸ long_yes g tv rs H x0 W hW hlen (lenV_tab hof).2)
 obtain ⟨r, hr⟩ : ∃ r, insertR H x0 (lenV H x0 + 1) x1 = r := ⟨_, rfl⟩
 rw [hr]
 have HR := Lib.hid hr
 obtain ⟨k0, n0, s0⟩ := x0
 obtain ⟨kv, nv, sv⟩ := x1
 have c0 := (a0.ext HW.out).k
 have c1 := (a0.ext HW.out).n
 have c2 := (a0.ext HW.out).s
 have d0 := (a2.ext HW.out).k
 have d1 := (a2.ext HW.out).n
 have d2 := (a2.ext HW.out).s
 simp only at c0 c1 c2 d0 d1 d2
 have hb := a0.lt
 have HNN := Lib.hid hn
 have HA0 := Lib.hid a0
 clear hn hl0 hT hmost hr h a0 a2
 go_enter Tryz.func70, Tryz.ntmps70
 go_wp2_with fail
 generalize w.alloc (.cells #[.int .i64 0, .int .i64 0, .string ⟨#[]⟩] 26) = W at *
 go_upto_region 2 with (fail)
 go_cut [5, 6] (fun s5 s6 wx => s5 = .int .i64 (n : Int) ∧ ∃ bv : Nat, s6 = .pointer (some ⟨bv, 0, none⟩) ∧ w.heap.size < bv ∧ Hid (Blk wx bv 26 #[.int .i64 kv, .int .i64 nv, .string sv] ∧ Ext W wx))
 case first =>
  have hbW : b < W.heap.size := Nat.lt_of_lt_of_le hb HW.out.le
  have hwW : w.heap.size < W.heap.size := HB.out.lt
  have hnb : ¬ W.heap.size = b := by omega
  have hnb2 : ¬ b = W.heap.size := by omega
  have hwr : IntKind.i64.wrap ((2 : Int) - 1) = 1 := rfl
  have hwr2 : IntKind.i64.wrap (1 : Int) = 1 := rfl
  go_region_held3 (fun w' => w'.cell? ⟨b, o, none⟩ = some (.int .i64 k0) ∧ w'.cell? ⟨b, o + 1, none⟩ = some (.int .i64 n0) ∧ w'.cell? ⟨b, o + 2, none⟩ = some (.string s0) ∧ w'.cell? ⟨b, o + 3, none⟩ = some (.int .i64 kv) ∧ w'.cell? ⟨b, o + 3 + 1, none⟩ = some (.int .i64 nv) ∧ w'.cell? ⟨b, o + 3 + 2, none⟩ = some (.string sv)) (go_keep)
   (first
    | (go_at_call 59; refine (cL.out _ (HI.out.ext (by repeat (first | exact Ext.refl _ | refine Ext.drew ?_ | refine Ext.alloc ?_ _)))).mono ?_; rintro e w3 ⟨rfl, e3⟩; have E3 := Lib.hid (show Ext W w3 from Ext.trans (by repeat (first | exact Ext.refl _ | refine Ext.drew ?_ | refine Ext.alloc ?_ _)) e3); have x0 := (E3.out.cells.1 _ _ hbW).trans c0; have x1 := (E3.out.cells.1 _ _ hbW).trans c1; have x2 := (E3.out.cells.1 _ _ hbW).trans c2; have y0 := (E3.out.cells.1 _ _ hbW).trans d0; have y1 := (E3.out.cells.1 _ _ hbW).trans d1; have y2 := (E3.out.cells.1 _ _ hbW).trans d2; (try (have hq : Ext (World.alloc W.drew (.cells #[.int .i64 0, .int .i64 0, .string ⟨#[]⟩] 26)) w3 := (by with_reducible exact e3); have ZA := Lib.hid (ZV.new W.heap.size rfl hq); obtain ⟨zl, zv0, zv1, zv2, zf0, zf1, zf2⟩ := ZA.out.facts; clear hq)); (try (have hq : Ext (World.drew (World.alloc W (.cells #[.int .i64 0, .int .i64 0, .string ⟨#[]⟩] 26))) w3 := (by with_reducible exact e3); have ZA := Lib.hid (ZV.newd W.heap.size rfl hq); obtain ⟨zl, zv0, zv1, zv2, zf0, zf1, zf2⟩ := ZA.out.facts; clear hq)); clear e3))
  all_goals go_wp2_with fail
  all_goals (
   go_meet
   first
    | exact ⟨rfl, _, rfl, hwW, Lib.hid ⟨put3 ZA.out _ _ _, ((E3.out.setCell (Nat.le_refl _) _).setCell (Nat.le_refl _) _).setCell (Nat.le_refl _) _⟩⟩
    | exact ⟨rfl, _, rfl, Nat.lt_of_lt_of_le hwW E3.out.le, Lib.hid ⟨Blk.new _ _ _, E3.out.alloc _⟩⟩)
 case rest =>
  obtain ⟨rfl, bv, rfl, hbv, HX⟩ := hcut
  obtain ⟨wx, rfl⟩ : ∃ wx : World, wx = wc := ⟨_, rfl⟩
  have EX := Lib.hid (HW.out.trans HX.out.2)
  have hbW : b < wx.heap.size := Nat.lt_of_lt_of_le hb EX.out.le
  have ke : ∀ k, k < w.heap.size → wx.heap[k]? = w.heap[k]? := fun k hk => EX.out.block k hk
  have HIx := Lib.hid (HI.out.ext HX.out.2)
  have HBx := Lib.hid (HB.out.ext HX.out.2)
  have BV := Lib.hid HX.out.1
  have hcx := HX.out.2.cells.1 b
  have hbW0 : b < W.heap.size := Nat.lt_of_lt_of_le hb HW.out.le
  replace c0 := (hcx o hbW0).trans c0
  replace c1 := (hcx (o + 1) hbW0).trans c1
  replace c2 := (hcx (o + 2) hbW0).trans c2
  replace d0 := (hcx (o + 3) hbW0).trans d0
  replace d1 := (hcx (o + 3 + 1) hbW0).trans d1
  replace d2 := (hcx (o + 3 + 2) hbW0).trans d2
  have v0 := BV.out.cell 0
  simp only [List.getElem?_toArray, List.getElem?_cons_zero] at v0
  clear hcx hbW0 ke HX HI HB HW
  have HNF : Hid (∀ x, w.heap.size ≤ x → ¬ Foot g tv rs x) := Lib.hid (fun x hx hf => by have := HI0.out.low hf; omega)
  have HWI := Lib.hid (fun (Z : World) => (within_any (((n : Int) + 1)) 1 ((n : Int) + 1) Z).mono (R' := fun e w' => e = .returned (.int .i64 (((n : Int) + 1))) ∧ Z = w') fun e w' h => ⟨by rw [h.1, show max 1 (min (((n : Int) + 1)) ((n : Int) + 1)) = ((n : Int) + 1) by omega], h.2⟩)
  go_wp2_with fail
  refine (HWI.out _).mono ?_
  rintro e w3 ⟨rfl, rfl⟩
  go_wp2_with fail
  refine (must_yes _ _).mono ?_
  rintro e w4 ⟨rfl, rfl⟩
  by_cases hk0 : kv = 0
  ·have HV : Hid (r = Rs.no H sType) := Lib.hid (by
    rw [← HR.out]
    unfold insertR
    rw [if_neg (by rw [HNN.out]; omega), if_pos hk0])
   have hkq : (kv != 0) = false := by simpa using hk0
   clear hk0
   go_wp2_with fail
   refine (must_no _ _).mono ?_
   rintro e w5 ⟨rfl, rfl⟩
   go_wp2_with fail
   exact ⟨rfl, by rw [HV.out]; exact DoE.no (r := Rs.no H sType) (show ¬ sType = sNone from by decide) (HS.of_ext HI0.out EX.out)⟩
  have hkq : (kv != 0) = true := by simpa using hk0
  have HK0 := Lib.hid hk0
  clear hk0
  go_wp2_with fail
  refine (must_yes _ _).mono ?_
  rintro e w5 ⟨rfl, rfl⟩
  clear v0 hkq
  go_wp2_with fail
  obtain ⟨r0, hr0⟩ : ∃ r0, upP ⟨k0, n0, s0⟩ (((n : Int) + 1)) ((n : Int) + 1 - (((n : Int) + 1))).toNat H = r0 := ⟨_, rfl⟩
  have HS0 : Hid (r = if r0.2 = sNone then ⟨Vl.zero, setW r0.1 ⟨k0, n0, s0⟩ (iK (((n : Int) + 1))) ⟨kv, nv, sv⟩, setH r0.1 ⟨k0, n0, s0⟩ (iK (((n : Int) + 1))) ⟨kv, nv, sv⟩⟩ else .no r0.1 r0.2) := Lib.hid (by
   rw [← HR.out]
   unfold insertR
   rw [if_neg (by rw [HNN.out]; omega), if_neg HK0.out]
   simp only [HNN.out, hr0])
  have hU : UpI w wx g tv rs H ⟨k0, n0, s0⟩ ⟨kv, nv, sv⟩ (((n : Int) + 1)) r0 bv ((n : Int) + 1 - (((n : Int) + 1))).toNat H := ⟨HIx.out, .of_ext EX.out, rfl, hof, hr0, hbv, BV.out, HBx.out⟩
  have HU := Lib.hid hU
  clear hU hr0 d0 d1 d2 BV HIx HBx
  go_loopw [8] (fun v8 wr => ∃ (i : Int) (k : Nat) (Hc : Hp), v8 = .int .i64 i ∧ Hid (i = ((n : Int) + 1) - 1 + k) ∧ ((n : Int) + 1) - 1 ≤ i ∧ i ≤ n ∧ Hid (UpI w wr g tv rs H ⟨k0, n0, s0⟩ ⟨kv, nv, sv⟩ (((n : Int) + 1)) r0 bv k Hc)) (fun v8 _ => (intOf v8 - (((n : Int) + 1)) + 1).toNat)
  case atStart => exact ⟨n, _, H, rfl, Lib.hid (by omega), by omega, by omega, HU⟩
  case round =>
   obtain ⟨i, k, Hc, rfl, hik, hi1, hi2, HUP⟩ := hrel
   clear c0 c1 c2 hbW
   have hbr : b < wr.heap.size := Nat.lt_of_lt_of_le hb HUP.out.touch.size
   have aa := HA0.out.of (HUP.out.touch.block b hb nb)
   have c0 := aa.k
   have c1 := aa.n
   have c2 := aa.s
   simp only at c0 c1 c2
   clear aa
   by_cases hge : ((n : Int) + 1) ≤ i
   ·have hd : decide (((n : Int) + 1) ≤ i) = true := decide_eq_true hge
    obtain ⟨k, rfl⟩ : ∃ k', k = k' + 1 := ⟨k - 1, by have := hik.out; omega⟩
    have HIK : Hid (i = ((n : Int) + 1) + k) := Lib.hid (by have := hik.out; omega)
    have hG := Lib.hid (fun (Z : World) (hZ : HeapIn Z g tv rs Hc) => get_any g tv rs Hc ⟨k0, n0, s0⟩ (iK i) Z hZ (by rw [HUP.out.len]; exact hlen) ⟨by show (-9223372036854775808 : Int) ≤ i; omega, by show i ≤ 9223372036854775807; omega⟩)
    rw [getW_int HUP.out.of] at hG
    have hS := Lib.hid (fun (Z : World) (hZ : HeapIn Z g tv rs Hc) => lset_any g tv rs Hc ⟨k0, n0, s0⟩ (i + 1) (getV Hc ⟨k0, n0, s0⟩ (iK i)) Z hZ (by rw [HUP.out.len]; exact hlen) ⟨by omega, by omega⟩ (getV_ok HUP.out.heap.ok _ _).1)
    have hST : Hid (setW Hc ⟨k0, n0, s0⟩ (iK (i + 1)) (getV Hc ⟨k0, n0, s0⟩ (iK i)) = sNone → ∀ (Z w' : World), Ext wr Z → SetE Z g tv rs Hc ⟨k0, n0, s0⟩ (i + 1) (getV Hc ⟨k0, n0, s0⟩ (iK i)) (.returned (.tuple #[])) w' → UpI w w' g tv rs H ⟨k0, n0, s0⟩ ⟨kv, nv, sv⟩ (((n : Int) + 1)) r0 bv k (setH Hc ⟨k0, n0, s0⟩ (iK (i + 1)) (getV Hc ⟨k0, n0, s0⟩ (iK i)))) :=
     Lib.hid (fun hs Z w' hZ hE => HUP.out.go HIK.out hs HNF.out hE.heap (Touch.pre hZ hE.touch))
    have hNO : Hid (¬ setW Hc ⟨k0, n0, s0⟩ (iK (i + 1)) (getV Hc ⟨k0, n0, s0⟩ (iK i)) = sNone → ∀ (Z w' : World), Ext wr Z → SetE Z g tv rs Hc ⟨k0, n0, s0⟩ (i + 1) (getV Hc ⟨k0, n0, s0⟩ (iK i)) (.panicked [{ v := failV (setW Hc ⟨k0, n0, s0⟩ (iK (i + 1)) (getV Hc ⟨k0, n0, s0⟩ (iK i))), recovered := false }]) w' → DoE w g tv rs r (.panicked [{ v := failV (setW Hc ⟨k0, n0, s0⟩ (iK (i + 1)) (getV Hc ⟨k0, n0, s0⟩ (iK i))), recovered := false }]) w') :=
     Lib.hid (fun hs Z w' hZ hE => by
      have hr := HS0.out
      rw [HUP.out.stop HIK.out hs] at hr
      simp only [if_neg hs] at hr
      rw [hr]
      exact DoE.no (r := Rs.no Hc _) hs (HS.of_touch (by have := hE.heap; rw [setH_no hs] at this; exact this) (HUP.out.touch.trans (Touch.pre hZ hE.touch))))
    have hcase := Decidable.em (setW Hc ⟨k0, n0, s0⟩ (iK (i + 1)) (getV Hc ⟨k0, n0, s0⟩ (iK i)) = sNone)
    have HG := Lib.hid (HUP.out.heap)
    obtain ⟨gv, hgv⟩ : ∃ gv, getV Hc ⟨k0, n0, s0⟩ (iK i) = gv := ⟨_, rfl⟩
    rw [hgv] at hG hS hST hNO hcase
    obtain ⟨st, hst⟩ : ∃ st, setW Hc ⟨k0, n0, s0⟩ (iK (i + 1)) gv = st := ⟨_, rfl⟩
    rw [hst] at hST hNO hcase
    have HSTW := Lib.hid hst
    obtain ⟨gk, gn, gs⟩ := gv
    have hwr : IntKind.i64.wrap (i + 1) = i + 1 := IntWalk.i64_in _ (by omega)
    clear hgv hst hge HS0
    rcases hcase with hs | hs
    ·have HSN := Lib.hid hs
     clear hs hNO
     go_wp2_with fail
     go_region_held3 (fun w' => w'.cell? ⟨b, o, none⟩ = some (.int .i64 k0) ∧ w'.cell? ⟨b, o + 1, none⟩ = some (.int .i64 n0) ∧ w'.cell? ⟨b, o + 2, none⟩ = some (.string s0)) (go_keep)
      (first
       | (go_at_call 17; refine (int_any _ _).mono ?_; rintro e w3 ⟨rfl, e3⟩; have E3 := Lib.hid (show Ext wr w3 from Ext.trans (by repeat (first | exact Ext.refl _ | refine Ext.drew ?_)) e3); have x0 := (E3.out.cells.1 _ _ hbr).trans c0; have x1 := (E3.out.cells.1 _ _ hbr).trans c1; have x2 := (E3.out.cells.1 _ _ hbr).trans c2; clear e3)
       | (go_at_call 39; refine (hG.out _ (HG.out.ext E3.out)).mono ?_; rintro e w4 ⟨rfl, e4⟩; have E4 := Lib.hid (E3.out.trans e4); have y0 := (E4.out.cells.1 _ _ hbr).trans c0; have y1 := (E4.out.cells.1 _ _ hbr).trans c1; have y2 := (E4.out.cells.1 _ _ hbr).trans c2; clear e4)
       | (go_at_call 53; refine (got_yes ⟨gk, gn, gs⟩ _).mono ?_; rintro e w5 ⟨rfl, e5⟩; have E5 := Lib.hid (E4.out.trans e5); have z0 := (E5.out.cells.1 _ _ hbr).trans c0; have z1 := (E5.out.cells.1 _ _ hbr).trans c1; have z2 := (E5.out.cells.1 _ _ hbr).trans c2; clear e5)
       | (go_at_call 103; refine (hS.out _ (HG.out.ext E5.out)).mono ?_; intro e w6 hE; obtain rfl := hE.yes (HSTW.out.trans HSN.out); have U6 := Lib.hid (hST.out HSN.out _ _ E5.out hE); have q0 := (hE.touch.cells.1 b o (Nat.lt_of_lt_of_le hbr E5.out.le) nb).trans z0; have q1 := (hE.touch.cells.1 b (o + 1) (Nat.lt_of_lt_of_le hbr E5.out.le) nb).trans z1; have q2 := (hE.touch.cells.1 b (o + 2) (Nat.lt_of_lt_of_le hbr E5.out.le) nb).trans z2; clear hE))
     all_goals go_wp2_with fail
     all_goals (
      go_roundw
      case rel => exact ⟨i - 1, k, _, rfl, Lib.hid (by have := HIK.out; omega), by have := HIK.out; omega, by omega, U6⟩
      case measure => have := HIK.out; simp [intOf]; omega)
    ·have HSN := Lib.hid hs
     clear hs hST
     go_wp2_with fail
     refine wp_region_any (by kernel_rfl) ?_
     change wpAny _ _ _ _ _ _ _ (World.drew _)
     refine wpAny_take (i := 0) (v := ?_) rfl (by kernel_rfl) (by kernel_rfl) (by kernel_rfl) (fun _ _ _ h => h) (Or.inl ⟨by rfl, (by intro w; go_simp; first | done | with_reducible rfl)⟩) ?_
     refine wpAny_take (i := 1) (v := ?_) rfl (by kernel_rfl) (by kernel_rfl) (by kernel_rfl) (fun _ _ _ h => h) (Or.inl ⟨by rfl, (by intro w; go_simp; first | done | with_reducible rfl)⟩) ?_
     refine wpAny_take (i := 2) (v := ?_) rfl (by kernel_rfl) (by kernel_rfl) (by kernel_rfl) (fun _ _ _ h => h) (Or.inl ⟨by rfl, (by intro w; go_simp; first | done | with_reducible rfl)⟩) ?_
     refine wpAny_take (i := 4) (v := ?_) rfl (by kernel_rfl) (by kernel_rfl) (by kernel_rfl) (fun _ _ _ h => h) (Or.inl ⟨by rfl, (by intro w; go_simp; first | done | with_reducible rfl)⟩) ?_
     refine wpAny_take (i := 5) (v := ?_) rfl (by kernel_rfl) (by kernel_rfl) (by kernel_rfl) (fun _ _ _ h => h) (Or.inl ⟨by rfl, (by intro w; go_simp; first | done | with_reducible rfl)⟩) ?_
     refine wpAny_take (i := 6) (v := ?_) rfl (by kernel_rfl) (by kernel_rfl) (by kernel_rfl) (fun _ _ _ h => h) (Or.inl ⟨by rfl, (by intro w; go_simp; first | done | with_reducible rfl)⟩) ?_
     refine wpAny_take (i := 7) (v := ?_) rfl (by kernel_rfl) (by kernel_rfl) (by kernel_rfl) (fun _ _ _ h => h) (Or.inl ⟨by rfl, (by intro w; go_simp; first | done | with_reducible rfl)⟩) ?_
     refine wpAny_take (i := 8) (v := ?_) rfl (by kernel_rfl) (by kernel_rfl) (by kernel_rfl) (fun _ _ _ h => h) (Or.inl ⟨by rfl, (by intro w; go_simp; first | done | with_reducible rfl)⟩) ?_
     refine wpAny_take (i := 10) (v := ?_) rfl (by kernel_rfl) (by kernel_rfl) (by kernel_rfl) (fun _ _ _ h => h) (Or.inl ⟨by rfl, (by intro w; go_simp; first | done | with_reducible rfl)⟩) ?_
     refine wpAny_ready (rs := [3, 9, 11]) (by kernel_rfl) (by simp) ?_
     refine AllReady.cons rfl (fun K hK => ?_) ?_
     ·go_simp
      refine hK _ _ ?_
      clear hK K
      refine wpAny_ready (rs := [9, 11]) (by kernel_rfl) (by simp) ?_
      refine AllReady.cons rfl (fun K hK => ?_) ?_
      ·go_simp
       refine hK _ _ ?_
       clear hK K
       refine wpAny_ready (rs := [11]) (by kernel_rfl) (by simp) ?_
       refine AllReady.cons rfl (fun K hK => ?_) ?_
       ·go_simp
        refine (int_any _ _).mono ?_
        rintro e w3 ⟨rfl, e3⟩
        have E3 := Lib.hid (show Ext wr w3 from Ext.trans (by repeat (first | exact Ext.refl _ | refine Ext.drew ?_)) e3)
        have x0 := (E3.out.cells.1 _ _ hbr).trans c0
        have x1 := (E3.out.cells.1 _ _ hbr).trans c1
        have x2 := (E3.out.cells.1 _ _ hbr).trans c2
        clear e3
        refine hK _ _ ?_
        clear hK K
        refine wpAny_ready (rs := [12]) (by kernel_rfl) (by simp) ?_
        refine AllReady.cons rfl (fun K hK => ?_) ?_
        ·go_simp
         refine (hG.out _ (HG.out.ext E3.out)).mono ?_
         rintro e w4 ⟨rfl, e4⟩
         have E4 := Lib.hid (E3.out.trans e4)
         have y0 := (E4.out.cells.1 _ _ hbr).trans c0
         have y1 := (E4.out.cells.1 _ _ hbr).trans c1
         have y2 := (E4.out.cells.1 _ _ hbr).trans c2
         clear e4
         refine hK _ _ ?_
         clear hK K
         refine wpAny_take (i := 13) (v := ?_) rfl (by kernel_rfl) (by kernel_rfl) (by kernel_rfl) (fun _ _ _ h => h) (Or.inl ⟨by rfl, (by intro w; go_simp; first | done | with_reducible rfl)⟩) ?_
         refine wpAny_take (i := 14) (v := ?_) rfl (by kernel_rfl) (by kernel_rfl) (by kernel_rfl) (fun _ _ _ h => h) (Or.inl ⟨by rfl, (by intro w; go_simp; first | done | with_reducible rfl)⟩) ?_
         refine wpAny_ready (rs := [15]) (by kernel_rfl) (by simp) ?_
         refine AllReady.cons rfl (fun K hK => ?_) ?_
         ·go_simp
          refine (got_yes ⟨gk, gn, gs⟩ _).mono ?_
          rintro e w5 ⟨rfl, e5⟩
          have E5 := Lib.hid (E4.out.trans e5)
          have z0 := (E5.out.cells.1 _ _ hbr).trans c0
          have z1 := (E5.out.cells.1 _ _ hbr).trans c1
          have z2 := (E5.out.cells.1 _ _ hbr).trans c2
          clear e5
          refine hK _ _ ?_
          clear hK K
          refine wpAny_ready (rs := [16]) (by kernel_rfl) (by simp) ?_
          refine AllReady.cons rfl (fun K hK => ?_) ?_
          ·go_simp
           refine (hS.out _ (HG.out.ext E5.out)).mono ?_
           intro e w6 hE
           obtain ⟨hns, rfl⟩ : True ∧ e = .panicked [{ v := failV st, recovered := false }] := ⟨trivial, by have h0 := hE.no (by rw [HSTW.out]; exact HSN.out); rw [HSTW.out] at h0; exact h0⟩
           exact ⟨rfl, hNO.out HSN.out _ _ E5.out hE⟩
          ·skip
           exact AllReady.nil
         ·skip
          exact AllReady.nil
        ·skip
         exact AllReady.nil
       ·skip
        exact AllReady.nil
      ·skip
       refine AllReady.cons rfl (fun K hK => ?_) ?_
       ·go_simp
        refine (int_any _ _).mono ?_
        rintro e w3 ⟨rfl, e3⟩
        have E3 := Lib.hid (show Ext wr w3 from Ext.trans (by repeat (first | exact Ext.refl _ | refine Ext.drew ?_)) e3)
        have x0 := (E3.out.cells.1 _ _ hbr).trans c0
        have x1 := (E3.out.cells.1 _ _ hbr).trans c1
        have x2 := (E3.out.cells.1 _ _ hbr).trans c2
        clear e3
        refine hK _ _ ?_
        clear hK K
        refine wpAny_ready (rs := [9]) (by kernel_rfl) (by simp) ?_
        refine AllReady.cons rfl (fun K hK => ?_) ?_
        ·go_simp
         refine hK _ _ ?_
         clear hK K
         refine wpAny_ready (rs := [12]) (by kernel_rfl) (by simp) ?_
         refine AllReady.cons rfl (fun K hK => ?_) ?_
         ·go_simp
          refine (hG.out _ (HG.out.ext E3.out)).mono ?_
          rintro e w4 ⟨rfl, e4⟩
          have E4 := Lib.hid (E3.out.trans e4)
          have y0 := (E4.out.cells.1 _ _ hbr).trans c0
          have y1 := (E4.out.cells.1 _ _ hbr).trans c1
          have y2 := (E4.out.cells.1 _ _ hbr).trans c2
          clear e4
          refine hK _ _ ?_
          clear hK K
          refine wpAny_take (i := 13) (v := ?_) rfl (by kernel_rfl) (by kernel_rfl) (by kernel_rfl) (fun _ _ _ h => h) (Or.inl ⟨by rfl, (by intro w; go_simp; first | done | with_reducible rfl)⟩) ?_
          refine wpAny_take (i := 14) (v := ?_) rfl (by kernel_rfl) (by kernel_rfl) (by kernel_rfl) (fun _ _ _ h => h) (Or.inl ⟨by rfl, (by intro w; go_simp; first | done | with_reducible rfl)⟩) ?_
          refine wpAny_ready (rs := [15]) (by kernel_rfl) (by simp) ?_
          refine AllReady.cons rfl (fun K hK => ?_) ?_
          ·go_simp
           refine (got_yes ⟨gk, gn, gs⟩ _).mono ?_
           rintro e w5 ⟨rfl, e5⟩
           have E5 := Lib.hid (E4.out.trans e5)
           have z0 := (E5.out.cells.1 _ _ hbr).trans c0
           have z1 := (E5.out.cells.1 _ _ hbr).trans c1
           have z2 := (E5.out.cells.1 _ _ hbr).trans c2
           clear e5
           refine hK _ _ ?_
           clear hK K
           refine wpAny_ready (rs := [16]) (by kernel_rfl) (by simp) ?_
           refine AllReady.cons rfl (fun K hK => ?_) ?_
           ·go_simp
            refine (hS.out _ (HG.out.ext E5.out)).mono ?_
            intro e w6 hE
            obtain ⟨hns, rfl⟩ : True ∧ e = .panicked [{ v := failV st, recovered := false }] := ⟨trivial, by have h0 := hE.no (by rw [HSTW.out]; exact HSN.out); rw [HSTW.out] at h0; exact h0⟩
            exact ⟨rfl, hNO.out HSN.out _ _ E5.out hE⟩
           ·skip
            exact AllReady.nil
          ·skip
           exact AllReady.nil
         ·skip
          exact AllReady.nil
        ·skip
         exact AllReady.nil
       ·skip
        exact AllReady.nil
     ·skip
      refine AllReady.cons rfl (fun K hK => ?_) ?_
      ·go_simp
       refine hK _ _ ?_
       clear hK K
       refine wpAny_ready (rs := [3, 11]) (by kernel_rfl) (by simp) ?_
       refine AllReady.cons rfl (fun K hK => ?_) ?_
       ·go_simp
        refine hK _ _ ?_
        clear hK K
        refine wpAny_ready (rs := [11]) (by kernel_rfl) (by simp) ?_
        refine AllReady.cons rfl (fun K hK => ?_) ?_
        ·go_simp
         refine (int_any _ _).mono ?_
         rintro e w3 ⟨rfl, e3⟩
         have E3 := Lib.hid (show Ext wr w3 from Ext.trans (by repeat (first | exact Ext.refl _ | refine Ext.drew ?_)) e3)
         have x0 := (E3.out.cells.1 _ _ hbr).trans c0
         have x1 := (E3.out.cells.1 _ _ hbr).trans c1
         have x2 := (E3.out.cells.1 _ _ hbr).trans c2
         clear e3
         refine hK _ _ ?_
         clear hK K
         refine wpAny_ready (rs := [12]) (by kernel_rfl) (by simp) ?_
         refine AllReady.cons rfl (fun K hK => ?_) ?_
         ·go_simp
          refine (hG.out _ (HG.out.ext E3.out)).mono ?_
          rintro e w4 ⟨rfl, e4⟩
          have E4 := Lib.hid (E3.out.trans e4)
          have y0 := (E4.out.cells.1 _ _ hbr).trans c0
          have y1 := (E4.out.cells.1 _ _ hbr).trans c1
          have y2 := (E4.out.cells.1 _ _ hbr).trans c2
          clear e4
          refine hK _ _ ?_
          clear hK K
          refine wpAny_take (i := 13) (v := ?_) rfl (by kernel_rfl) (by kernel_rfl) (by kernel_rfl) (fun _ _ _ h => h) (Or.inl ⟨by rfl, (by intro w; go_simp; first | done | with_reducible rfl)⟩) ?_
          refine wpAny_take (i := 14) (v := ?_) rfl (by kernel_rfl) (by kernel_rfl) (by kernel_rfl) (fun _ _ _ h => h) (Or.inl ⟨by rfl, (by intro w; go_simp; first | done | with_reducible rfl)⟩) ?_
          refine wpAny_ready (rs := [15]) (by kernel_rfl) (by simp) ?_
          refine AllReady.cons rfl (fun K hK => ?_) ?_
          ·go_simp
           refine (got_yes ⟨gk, gn, gs⟩ _).mono ?_
           rintro e w5 ⟨rfl, e5⟩
           have E5 := Lib.hid (E4.out.trans e5)
           have z0 := (E5.out.cells.1 _ _ hbr).trans c0
           have z1 := (E5.out.cells.1 _ _ hbr).trans c1
           have z2 := (E5.out.cells.1 _ _ hbr).trans c2
           clear e5
           refine hK _ _ ?_
           clear hK K
           refine wpAny_ready (rs := [16]) (by kernel_rfl) (by simp) ?_
           refine AllReady.cons rfl (fun K hK => ?_) ?_
           ·go_simp
            refine (hS.out _ (HG.out.ext E5.out)).mono ?_
            intro e w6 hE
            obtain ⟨hns, rfl⟩ : True ∧ e = .panicked [{ v := failV st, recovered := false }] := ⟨trivial, by have h0 := hE.no (by rw [HSTW.out]; exact HSN.out); rw [HSTW.out] at h0; exact h0⟩
            exact ⟨rfl, hNO.out HSN.out _ _ E5.out hE⟩
           ·skip
            exact AllReady.nil
          ·skip
           exact AllReady.nil
         ·skip
          exact AllReady.nil
        ·skip
         exact AllReady.nil
       ·skip
        refine AllReady.cons rfl (fun K hK => ?_) ?_
        ·go_simp
         refine (int_any _ _).mono ?_
         rintro e w3 ⟨rfl, e3⟩
         have E3 := Lib.hid (show Ext wr w3 from Ext.trans (by repeat (first | exact Ext.refl _ | refine Ext.drew ?_)) e3)
         have x0 := (E3.out.cells.1 _ _ hbr).trans c0
         have x1 := (E3.out.cells.1 _ _ hbr).trans c1
         have x2 := (E3.out.cells.1 _ _ hbr).trans c2
         clear e3
         refine hK _ _ ?_
         clear hK K
         refine wpAny_ready (rs := [3, 12]) (by kernel_rfl) (by simp) ?_
         refine AllReady.cons rfl (fun K hK => ?_) ?_
         ·go_simp
          refine hK _ _ ?_
          clear hK K
          refine wpAny_ready (rs := [12]) (by kernel_rfl) (by simp) ?_
          refine AllReady.cons rfl (fun K hK => ?_) ?_
          ·go_simp
           refine (hG.out _ (HG.out.ext E3.out)).mono ?_
           rintro e w4 ⟨rfl, e4⟩
           have E4 := Lib.hid (E3.out.trans e4)
           have y0 := (E4.out.cells.1 _ _ hbr).trans c0
           have y1 := (E4.out.cells.1 _ _ hbr).trans c1
           have y2 := (E4.out.cells.1 _ _ hbr).trans c2
           clear e4
           refine hK _ _ ?_
           clear hK K
           refine wpAny_take (i := 13) (v := ?_) rfl (by kernel_rfl) (by kernel_rfl) (by kernel_rfl) (fun _ _ _ h => h) (Or.inl ⟨by rfl, (by intro w; go_simp; first | done | with_reducible rfl)⟩) ?_
           refine wpAny_take (i := 14) (v := ?_) rfl (by kernel_rfl) (by kernel_rfl) (by kernel_rfl) (fun _ _ _ h => h) (Or.inl ⟨by rfl, (by intro w; go_simp; first | done | with_reducible rfl)⟩) ?_
           refine wpAny_ready (rs := [15]) (by kernel_rfl) (by simp) ?_
           refine AllReady.cons rfl (fun K hK => ?_) ?_
           ·go_simp
            refine (got_yes ⟨gk, gn, gs⟩ _).mono ?_
            rintro e w5 ⟨rfl, e5⟩
            have E5 := Lib.hid (E4.out.trans e5)
            have z0 := (E5.out.cells.1 _ _ hbr).trans c0
            have z1 := (E5.out.cells.1 _ _ hbr).trans c1
            have z2 := (E5.out.cells.1 _ _ hbr).trans c2
            clear e5
            refine hK _ _ ?_
            clear hK K
            refine wpAny_ready (rs := [16]) (by kernel_rfl) (by simp) ?_
            refine AllReady.cons rfl (fun K hK => ?_) ?_
            ·go_simp
             refine (hS.out _ (HG.out.ext E5.out)).mono ?_
             intro e w6 hE
             obtain ⟨hns, rfl⟩ : True ∧ e = .panicked [{ v := failV st, recovered := false }] := ⟨trivial, by have h0 := hE.no (by rw [HSTW.out]; exact HSN.out); rw [HSTW.out] at h0; exact h0⟩
             exact ⟨rfl, hNO.out HSN.out _ _ E5.out hE⟩
            ·skip
             exact AllReady.nil
           ·skip
            exact AllReady.nil
          ·skip
           exact AllReady.nil
         ·skip
          refine AllReady.cons rfl (fun K hK => ?_) ?_
          ·go_simp
           refine (hG.out _ (HG.out.ext E3.out)).mono ?_
           rintro e w4 ⟨rfl, e4⟩
           have E4 := Lib.hid (E3.out.trans e4)
           have y0 := (E4.out.cells.1 _ _ hbr).trans c0
           have y1 := (E4.out.cells.1 _ _ hbr).trans c1
           have y2 := (E4.out.cells.1 _ _ hbr).trans c2
           clear e4
           refine hK _ _ ?_
           clear hK K
           refine wpAny_take (i := 13) (v := ?_) rfl (by kernel_rfl) (by kernel_rfl) (by kernel_rfl) (fun _ _ _ h => h) (Or.inl ⟨by rfl, (by intro w; go_simp; first | done | with_reducible rfl)⟩) ?_
           refine wpAny_take (i := 14) (v := ?_) rfl (by kernel_rfl) (by kernel_rfl) (by kernel_rfl) (fun _ _ _ h => h) (Or.inl ⟨by rfl, (by intro w; go_simp; first | done | with_reducible rfl)⟩) ?_
           refine wpAny_ready (rs := [3, 15]) (by kernel_rfl) (by simp) ?_
           refine AllReady.cons rfl (fun K hK => ?_) ?_
           ·go_simp
            refine hK _ _ ?_
            clear hK K
            refine wpAny_ready (rs := [15]) (by kernel_rfl) (by simp) ?_
            refine AllReady.cons rfl (fun K hK => ?_) ?_
            ·go_simp
             refine (got_yes ⟨gk, gn, gs⟩ _).mono ?_
             rintro e w5 ⟨rfl, e5⟩
             have E5 := Lib.hid (E4.out.trans e5)
             have z0 := (E5.out.cells.1 _ _ hbr).trans c0
             have z1 := (E5.out.cells.1 _ _ hbr).trans c1
             have z2 := (E5.out.cells.1 _ _ hbr).trans c2
             clear e5
             refine hK _ _ ?_
             clear hK K
             refine wpAny_ready (rs := [16]) (by kernel_rfl) (by simp) ?_
             refine AllReady.cons rfl (fun K hK => ?_) ?_
             ·go_simp
              refine (hS.out _ (HG.out.ext E5.out)).mono ?_
              intro e w6 hE
              obtain ⟨hns, rfl⟩ : True ∧ e = .panicked [{ v := failV st, recovered := false }] := ⟨trivial, by have h0 := hE.no (by rw [HSTW.out]; exact HSN.out); rw [HSTW.out] at h0; exact h0⟩
              exact ⟨rfl, hNO.out HSN.out _ _ E5.out hE⟩
             ·skip
              exact AllReady.nil
            ·skip
             exact AllReady.nil
           ·skip
            refine AllReady.cons rfl (fun K hK => ?_) ?_
            ·go_simp
             refine (got_yes ⟨gk, gn, gs⟩ _).mono ?_
             rintro e w5 ⟨rfl, e5⟩
             have E5 := Lib.hid (E4.out.trans e5)
             have z0 := (E5.out.cells.1 _ _ hbr).trans c0
             have z1 := (E5.out.cells.1 _ _ hbr).trans c1
             have z2 := (E5.out.cells.1 _ _ hbr).trans c2
             clear e5
             refine hK _ _ ?_
             clear hK K
             refine wpAny_ready (rs := [3]) (by kernel_rfl) (by simp) ?_
             refine AllReady.cons rfl (fun K hK => ?_) ?_
             ·go_simp
              refine hK _ _ ?_
              clear hK K
              refine wpAny_ready (rs := [16]) (by kernel_rfl) (by simp) ?_
              refine AllReady.cons rfl (fun K hK => ?_) ?_
              ·go_simp
               refine (hS.out _ (HG.out.ext E5.out)).mono ?_
               intro e w6 hE
               obtain ⟨hns, rfl⟩ : True ∧ e = .panicked [{ v := failV st, recovered := false }] := ⟨trivial, by have h0 := hE.no (by rw [HSTW.out]; exact HSN.out); rw [HSTW.out] at h0; exact h0⟩
               exact ⟨rfl, hNO.out HSN.out _ _ E5.out hE⟩
              ·skip
               exact AllReady.nil
             ·skip
              exact AllReady.nil
            ·skip
             exact AllReady.nil
          ·skip
           exact AllReady.nil
        ·skip
         exact AllReady.nil
      ·skip
       refine AllReady.cons rfl (fun K hK => ?_) ?_
       ·go_simp
        refine (int_any _ _).mono ?_
        rintro e w3 ⟨rfl, e3⟩
        have E3 := Lib.hid (show Ext wr w3 from Ext.trans (by repeat (first | exact Ext.refl _ | refine Ext.drew ?_)) e3)
        have x0 := (E3.out.cells.1 _ _ hbr).trans c0
        have x1 := (E3.out.cells.1 _ _ hbr).trans c1
        have x2 := (E3.out.cells.1 _ _ hbr).trans c2
        clear e3
        refine hK _ _ ?_
        clear hK K
        refine wpAny_ready (rs := [3, 9]) (by kernel_rfl) (by simp) ?_
        refine AllReady.cons rfl (fun K hK => ?_) ?_
        ·go_simp
         refine hK _ _ ?_
         clear hK K
         refine wpAny_ready (rs := [9]) (by kernel_rfl) (by simp) ?_
         refine AllReady.cons rfl (fun K hK => ?_) ?_
         ·go_simp
          refine hK _ _ ?_
          clear hK K
          refine wpAny_ready (rs := [12]) (by kernel_rfl) (by simp) ?_
          refine AllReady.cons rfl (fun K hK => ?_) ?_
          ·go_simp
           refine (hG.out _ (HG.out.ext E3.out)).mono ?_
           rintro e w4 ⟨rfl, e4⟩
           have E4 := Lib.hid (E3.out.trans e4)
           have y0 := (E4.out.cells.1 _ _ hbr).trans c0
           have y1 := (E4.out.cells.1 _ _ hbr).trans c1
           have y2 := (E4.out.cells.1 _ _ hbr).trans c2
           clear e4
           refine hK _ _ ?_
           clear hK K
           refine wpAny_take (i := 13) (v := ?_) rfl (by kernel_rfl) (by kernel_rfl) (by kernel_rfl) (fun _ _ _ h => h) (Or.inl ⟨by rfl, (by intro w; go_simp; first | done | with_reducible rfl)⟩) ?_
           refine wpAny_take (i := 14) (v := ?_) rfl (by kernel_rfl) (by kernel_rfl) (by kernel_rfl) (fun _ _ _ h => h) (Or.inl ⟨by rfl, (by intro w; go_simp; first | done | with_reducible rfl)⟩) ?_
           refine wpAny_ready (rs := [15]) (by kernel_rfl) (by simp) ?_
           refine AllReady.cons rfl (fun K hK => ?_) ?_
           ·go_simp
            refine (got_yes ⟨gk, gn, gs⟩ _).mono ?_
            rintro e w5 ⟨rfl, e5⟩
            have E5 := Lib.hid (E4.out.trans e5)
            have z0 := (E5.out.cells.1 _ _ hbr).trans c0
            have z1 := (E5.out.cells.1 _ _ hbr).trans c1
            have z2 := (E5.out.cells.1 _ _ hbr).trans c2
            clear e5
            refine hK _ _ ?_
            clear hK K
            refine wpAny_ready (rs := [16]) (by kernel_rfl) (by simp) ?_
            refine AllReady.cons rfl (fun K hK => ?_) ?_
            ·go_simp
             refine (hS.out _ (HG.out.ext E5.out)).mono ?_
             intro e w6 hE
             obtain ⟨hns, rfl⟩ : True ∧ e = .panicked [{ v := failV st, recovered := false }] := ⟨trivial, by have h0 := hE.no (by rw [HSTW.out]; exact HSN.out); rw [HSTW.out] at h0; exact h0⟩
             exact ⟨rfl, hNO.out HSN.out _ _ E5.out hE⟩
            ·skip
             exact AllReady.nil
           ·skip
            exact AllReady.nil
          ·skip
           exact AllReady.nil
         ·skip
          exact AllReady.nil
        ·skip
         refine AllReady.cons rfl (fun K hK => ?_) ?_
         ·go_simp
          refine hK _ _ ?_
          clear hK K
          refine wpAny_ready (rs := [3, 12]) (by kernel_rfl) (by simp) ?_
          refine AllReady.cons rfl (fun K hK => ?_) ?_
          ·go_simp
           refine hK _ _ ?_
           clear hK K
           refine wpAny_ready (rs := [12]) (by kernel_rfl) (by simp) ?_
           refine AllReady.cons rfl (fun K hK => ?_) ?_
           ·go_simp
            refine (hG.out _ (HG.out.ext E3.out)).mono ?_
            rintro e w4 ⟨rfl, e4⟩
            have E4 := Lib.hid (E3.out.trans e4)
            have y0 := (E4.out.cells.1 _ _ hbr).trans c0
            have y1 := (E4.out.cells.1 _ _ hbr).trans c1
            have y2 := (E4.out.cells.1 _ _ hbr).trans c2
            clear e4
            refine hK _ _ ?_
            clear hK K
            refine wpAny_take (i := 13) (v := ?_) rfl (by kernel_rfl) (by kernel_rfl) (by kernel_rfl) (fun _ _ _ h => h) (Or.inl ⟨by rfl, (by intro w; go_simp; first | done | with_reducible rfl)⟩) ?_
            refine wpAny_take (i := 14) (v := ?_) rfl (by kernel_rfl) (by kernel_rfl) (by kernel_rfl) (fun _ _ _ h => h) (Or.inl ⟨by rfl, (by intro w; go_simp; first | done | with_reducible rfl)⟩) ?_
            refine wpAny_ready (rs := [15]) (by kernel_rfl) (by simp) ?_
            refine AllReady.cons rfl (fun K hK => ?_) ?_
            ·go_simp
             refine (got_yes ⟨gk, gn, gs⟩ _).mono ?_
             rintro e w5 ⟨rfl, e5⟩
             have E5 := Lib.hid (E4.out.trans e5)
             have z0 := (E5.out.cells.1 _ _ hbr).trans c0
             have z1 := (E5.out.cells.1 _ _ hbr).trans c1
             have z2 := (E5.out.cells.1 _ _ hbr).trans c2
             clear e5
             refine hK _ _ ?_
             clear hK K
             refine wpAny_ready (rs := [16]) (by kernel_rfl) (by simp) ?_
             refine AllReady.cons rfl (fun K hK => ?_) ?_
             ·go_simp
              refine (hS.out _ (HG.out.ext E5.out)).mono ?_
              intro e w6 hE
              obtain ⟨hns, rfl⟩ : True ∧ e = .panicked [{ v := failV st, recovered := false }] := ⟨trivial, by have h0 := hE.no (by rw [HSTW.out]; exact HSN.out); rw [HSTW.out] at h0; exact h0⟩
              exact ⟨rfl, hNO.out HSN.out _ _ E5.out hE⟩
             ·skip
              exact AllReady.nil
            ·skip
             exact AllReady.nil
           ·skip
            exact AllReady.nil
          ·skip
           refine AllReady.cons rfl (fun K hK => ?_) ?_
           ·go_simp
            refine (hG.out _ (HG.out.ext E3.out)).mono ?_
            rintro e w4 ⟨rfl, e4⟩
            have E4 := Lib.hid (E3.out.trans e4)
            have y0 := (E4.out.cells.1 _ _ hbr).trans c0
            have y1 := (E4.out.cells.1 _ _ hbr).trans c1
            have y2 := (E4.out.cells.1 _ _ hbr).trans c2
            clear e4
            refine hK _ _ ?_
            clear hK K
            refine wpAny_take (i := 13) (v := ?_) rfl (by kernel_rfl) (by kernel_rfl) (by kernel_rfl) (fun _ _ _ h => h) (Or.inl ⟨by rfl, (by intro w; go_simp; first | done | with_reducible rfl)⟩) ?_
            refine wpAny_take (i := 14) (v := ?_) rfl (by kernel_rfl) (by kernel_rfl) (by kernel_rfl) (fun _ _ _ h => h) (Or.inl ⟨by rfl, (by intro w; go_simp; first | done | with_reducible rfl)⟩) ?_
            refine wpAny_ready (rs := [3, 15]) (by kernel_rfl) (by simp) ?_
            refine AllReady.cons rfl (fun K hK => ?_) ?_
            ·go_simp
             refine hK _ _ ?_
             clear hK K
             refine wpAny_ready (rs := [15]) (by kernel_rfl) (by simp) ?_
             refine AllReady.cons rfl (fun K hK => ?_) ?_
             ·go_simp
              refine (got_yes ⟨gk, gn, gs⟩ _).mono ?_
              rintro e w5 ⟨rfl, e5⟩
              have E5 := Lib.hid (E4.out.trans e5)
              have z0 := (E5.out.cells.1 _ _ hbr).trans c0
              have z1 := (E5.out.cells.1 _ _ hbr).trans c1
              have z2 := (E5.out.cells.1 _ _ hbr).trans c2
              clear e5
              refine hK _ _ ?_
              clear hK K
              refine wpAny_ready (rs := [16]) (by kernel_rfl) (by simp) ?_
              refine AllReady.cons rfl (fun K hK => ?_) ?_
              ·go_simp
               refine (hS.out _ (HG.out.ext E5.out)).mono ?_
               intro e w6 hE
               obtain ⟨hns, rfl⟩ : True ∧ e = .panicked [{ v := failV st, recovered := false }] := ⟨trivial, by have h0 := hE.no (by rw [HSTW.out]; exact HSN.out); rw [HSTW.out] at h0; exact h0⟩
               exact ⟨rfl, hNO.out HSN.out _ _ E5.out hE⟩
              ·skip
               exact AllReady.nil
             ·skip
              exact AllReady.nil
            ·skip
             refine AllReady.cons rfl (fun K hK => ?_) ?_
             ·go_simp
              refine (got_yes ⟨gk, gn, gs⟩ _).mono ?_
              rintro e w5 ⟨rfl, e5⟩
              have E5 := Lib.hid (E4.out.trans e5)
              have z0 := (E5.out.cells.1 _ _ hbr).trans c0
              have z1 := (E5.out.cells.1 _ _ hbr).trans c1
              have z2 := (E5.out.cells.1 _ _ hbr).trans c2
              clear e5
              refine hK _ _ ?_
              clear hK K
              refine wpAny_ready (rs := [3]) (by kernel_rfl) (by simp) ?_
              refine AllReady.cons rfl (fun K hK => ?_) ?_
              ·go_simp
               refine hK _ _ ?_
               clear hK K
               refine wpAny_ready (rs := [16]) (by kernel_rfl) (by simp) ?_
               refine AllReady.cons rfl (fun K hK => ?_) ?_
               ·go_simp
                refine (hS.out _ (HG.out.ext E5.out)).mono ?_
                intro e w6 hE
                obtain ⟨hns, rfl⟩ : True ∧ e = .panicked [{ v := failV st, recovered := false }] := ⟨trivial, by have h0 := hE.no (by rw [HSTW.out]; exact HSN.out); rw [HSTW.out] at h0; exact h0⟩
                exact ⟨rfl, hNO.out HSN.out _ _ E5.out hE⟩
               ·skip
                exact AllReady.nil
              ·skip
               exact AllReady.nil
             ·skip
              exact AllReady.nil
           ·skip
            exact AllReady.nil
         ·skip
          exact AllReady.nil
       ·skip
        exact AllReady.nil
   ·have hd : decide (((n : Int) + 1) ≤ i) = false := decide_eq_false hge
    obtain rfl : k = 0 := by have := hik.out; omega
    have hr0 : r0 = (Hc, sNone) := HUP.out.spec.symm
    obtain ⟨bl, w0, w1, w2⟩ := (⟨HUP.out.box.lt, HUP.out.box.cell 0, HUP.out.box.cell 1, HUP.out.box.cell 2⟩ : bv < wr.heap.size ∧ wr.cell? ⟨bv, 0, none⟩ = some (.int .i64 kv) ∧ wr.cell? ⟨bv, 1, none⟩ = some (.int .i64 nv) ∧ wr.cell? ⟨bv, 2, none⟩ = some (.string sv))
    have nbv : ¬ Foot g tv rs bv := HNF.out bv (Nat.le_of_lt hbv)
    have hS := Lib.hid (fun (Z : World) (hZ : HeapIn Z g tv rs Hc) => lset_any g tv rs Hc ⟨k0, n0, s0⟩ (((n : Int) + 1)) ⟨kv, nv, sv⟩ Z hZ (by rw [HUP.out.len]; exact hlen) ⟨by omega, by omega⟩ hv)
    obtain ⟨st, hst⟩ : ∃ st, setW Hc ⟨k0, n0, s0⟩ (iK (((n : Int) + 1))) ⟨kv, nv, sv⟩ = st := ⟨_, rfl⟩
    have HSTW := Lib.hid hst
    have hrr : r = ⟨Vl.zero, st, setH Hc ⟨k0, n0, s0⟩ (iK (((n : Int) + 1))) ⟨kv, nv, sv⟩⟩ := by
     have h1 := HS0.out
     rw [hr0] at h1
     simp only [if_pos, hst] at h1
     exact h1
    have HRR := Lib.hid hrr
    have HG := Lib.hid HUP.out.heap
    have HT := Lib.hid HUP.out.touch
    have HRS := Lib.hid HUP.out.res
    have hcase := Decidable.em (st = sNone)
    clear hst hrr hr0 HS0 HUP hge hik hv hlen
    rcases hcase with hs | hs
    ·have HSN := Lib.hid hs
     clear hs
     go_wp2_with fail
     go_region_held3 (fun w' => w'.cell? ⟨b, o, none⟩ = some (.int .i64 k0) ∧ w'.cell? ⟨b, o + 1, none⟩ = some (.int .i64 n0) ∧ w'.cell? ⟨b, o + 2, none⟩ = some (.string s0) ∧ w'.cell? ⟨bv, 0, none⟩ = some (.int .i64 kv) ∧ w'.cell? ⟨bv, 1, none⟩ = some (.int .i64 nv) ∧ w'.cell? ⟨bv, 2, none⟩ = some (.string sv)) (go_keep)
      (first
       | (go_at_call 103; refine (hS.out _ (HG.out.ext (Ext.refl _).drew)).mono ?_; intro e w6 hE; obtain rfl := hE.yes (HSTW.out.trans HSN.out); have T6 := Lib.hid (show HeapIn w6 g tv rs _ ∧ Touch (Foot g tv rs) wr w6 from ⟨hE.heap, Touch.pre (Ext.refl _).drew hE.touch⟩); have q0 := (T6.out.2.cells.1 b o hbr nb).trans c0; have q1 := (T6.out.2.cells.1 b (o + 1) hbr nb).trans c1; have q2 := (T6.out.2.cells.1 b (o + 2) hbr nb).trans c2; have r0 := (T6.out.2.cells.1 bv 0 bl nbv).trans w0; have r1 := (T6.out.2.cells.1 bv 1 bl nbv).trans w1; have r2 := (T6.out.2.cells.1 bv 2 bl nbv).trans w2; clear hE))
     obtain ⟨z0, z1, z2, y0, y1, y2⟩ := three (show Blk w6 w.heap.size 26 #[.int .i64 0, .int .i64 0, .string ⟨#[]⟩] from (T6.out.2.block _ HRS.out.lt HN.out).trans HRS.out)
     have hlt6 : w.heap.size < w6.heap.size := Nat.lt_of_lt_of_le HRS.out.lt T6.out.2.size
     all_goals go_wp2_with fail
     exact bodyPost_ret (v := Vl.zero.v) (by simp [results, Tryz.results70, go_sem, Vl.zero, *]) rfl (by rw [HRR.out]; exact DoE.yes (r := ⟨Vl.zero, st, setH Hc ⟨k0, n0, s0⟩ (iK (((n : Int) + 1))) ⟨kv, nv, sv⟩⟩) HSN.out ((HS.of_touch T6.out.1 (HT.out.trans T6.out.2)).set3 (Nat.le_refl _) HN.out _ _ _))
    ·have HSN := Lib.hid hs
     clear hs
     go_wp2_with fail
     refine wp_region_any (by kernel_rfl) ?_
     change wpAny _ _ _ _ _ _ _ (World.drew _)
     refine wpAny_take (i := 0) (v := ?_) rfl (by kernel_rfl) (by kernel_rfl) (by kernel_rfl) (fun _ _ _ h => h) (Or.inl ⟨by rfl, (by intro w; go_simp; first | done | with_reducible rfl)⟩) ?_
     refine wpAny_take (i := 1) (v := ?_) rfl (by kernel_rfl) (by kernel_rfl) (by kernel_rfl) (fun _ _ _ h => h) (Or.inl ⟨by rfl, (by intro w; go_simp; first | done | with_reducible rfl)⟩) ?_
     refine wpAny_take (i := 2) (v := ?_) rfl (by kernel_rfl) (by kernel_rfl) (by kernel_rfl) (fun _ _ _ h => h) (Or.inl ⟨by rfl, (by intro w; go_simp; first | done | with_reducible rfl)⟩) ?_
     refine wpAny_take (i := 4) (v := ?_) rfl (by kernel_rfl) (by kernel_rfl) (by kernel_rfl) (fun _ _ _ h => h) (Or.inl ⟨by rfl, (by intro w; go_simp; first | done | with_reducible rfl)⟩) ?_
     refine wpAny_ready (rs := [3, 5]) (by kernel_rfl) (by simp) ?_
     refine AllReady.cons rfl (fun K hK => ?_) ?_
     ·go_simp
      refine hK _ _ ?_
      clear hK K
      refine wpAny_ready (rs := [5]) (by kernel_rfl) (by simp) ?_
      refine AllReady.cons rfl (fun K hK => ?_) ?_
      ·go_simp
       refine hK _ _ ?_
       clear hK K
       refine wpAny_ready (rs := [6]) (by kernel_rfl) (by simp) ?_
       refine AllReady.cons rfl (fun K hK => ?_) ?_
       ·go_simp
        refine (hS.out _ (HG.out.ext (Ext.refl _).drew)).mono ?_
        intro e w6 hE
        obtain ⟨hns, rfl⟩ : True ∧ e = .panicked [{ v := failV st, recovered := false }] := ⟨trivial, by have h0 := hE.no (by rw [HSTW.out]; exact HSN.out); rw [HSTW.out] at h0; exact h0⟩
        exact ⟨rfl, by rw [HRR.out]; exact DoE.no (r := ⟨Vl.zero, st, setH Hc ⟨k0, n0, s0⟩ (iK (((n : Int) + 1))) ⟨kv, nv, sv⟩⟩) HSN.out (HS.of_touch hE.heap (HT.out.trans (Touch.pre (Ext.refl _).drew hE.touch)))⟩
       ·skip
        exact AllReady.nil
      ·skip
       exact AllReady.nil
     ·skip
      refine AllReady.cons rfl (fun K hK => ?_) ?_
      ·go_simp
       refine hK _ _ ?_
       clear hK K
       refine wpAny_ready (rs := [3]) (by kernel_rfl) (by simp) ?_
       refine AllReady.cons rfl (fun K hK => ?_) ?_
       ·go_simp
        refine hK _ _ ?_
        clear hK K
        refine wpAny_ready (rs := [6]) (by kernel_rfl) (by simp) ?_
        refine AllReady.cons rfl (fun K hK => ?_) ?_
        ·go_simp
         refine (hS.out _ (HG.out.ext (Ext.refl _).drew)).mono ?_
         intro e w6 hE
         obtain ⟨hns, rfl⟩ : True ∧ e = .panicked [{ v := failV st, recovered := false }] := ⟨trivial, by have h0 := hE.no (by rw [HSTW.out]; exact HSN.out); rw [HSTW.out] at h0; exact h0⟩
         exact ⟨rfl, by rw [HRR.out]; exact DoE.no (r := ⟨Vl.zero, st, setH Hc ⟨k0, n0, s0⟩ (iK (((n : Int) + 1))) ⟨kv, nv, sv⟩⟩) HSN.out (HS.of_touch hE.heap (HT.out.trans (Touch.pre (Ext.refl _).drew hE.touch)))⟩
        ·skip
         exact AllReady.nil
       ·skip
        exact AllReady.nil
      ·skip
       exact AllReady.nil
end Go.Proofs.YtfagldjhibdfhaaGreatDoor
