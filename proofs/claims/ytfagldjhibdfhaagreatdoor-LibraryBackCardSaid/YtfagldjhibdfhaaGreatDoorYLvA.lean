/- above, alike: LibraryBack's own words. -/
import Derived.Test.YtfagldjhibdfhaaGreatDoorYLvF
import Derived.Test.YtfagldjhibdfhaaGreatDoorYE4
namespace Go.Proofs.YtfagldjhibdfhaaGreatDoor
open Go.RowKit
set_option linter.unusedVariables false
set_option linter.unusedSimpArgs false

def aboveL (l : List Vl) (m : Int) : Bool := l.any fun x => decide (x.k = 2) && decide (m < x.n)
set_option maxRecDepth 100000 in
set_option maxHeartbeats 4000000 in
theorem above_any (q : Option Addr) (l : List Vl) (c : Nat) (m : Int) (w : World) (hl : ValsAt w q l) (hn : l.length ≤ 1000000) :
  Calls Tryz.prog 29 #[.slice q l.length c, .int .i64 m] w fun e w' => e = .returned (.bool (aboveL l m)) ∧ w = w' := by
 obtain ⟨n, hnn⟩ : ∃ n, l.length = n := ⟨_, rfl⟩
 have HM := Lib.hid hnn
 have HV := Lib.hid hl
 obtain ⟨R, hR⟩ : ∃ R, aboveL l m = R := ⟨_, rfl⟩
 have HRR := Lib.hid hR
 rw [hnn] at hn ⊢
 rw [hR]
 have hnI : (n : Int) ≤ 1000000 := by omega
 clear hl hnn hR
 go_enter Tryz.func29, Tryz.ntmps29
 go_wp2_with fail
 go_loopw [5] (fun s5 wr => ∃ i : Nat, s5 = .int .i64 (i : Int) ∧ i ≤ n ∧ Hid (aboveL (l.drop i) m = R) ∧ wr = w) (fun s5 _ => n - (intOf s5).toNat)
 case atStart => exact ⟨0, rfl, Nat.zero_le _, Lib.hid (by rw [List.drop_zero]; exact HRR.out), rfl⟩
 case round =>
  obtain ⟨i, rfl, hi, HD, rfl⟩ := hrel
  by_cases hlt : i < n
  ·have hd : decide ((i : Int) < (n : Int)) = true := decide_eq_true (by omega)
   have hd' : decide (i < n) = true := decide_eq_true hlt
   have hltI : (i : Int) < (n : Int) := by omega
   have hi0 : (0 : Int) ≤ (i : Int) := by omega
   have hll : i < l.length := by have := HM.out; omega
   obtain ⟨x, hx⟩ : ∃ x, l[i]? = some x := ⟨_, List.getElem?_eq_getElem hll⟩
   obtain ⟨b, o, rfl, ax⟩ := HV.out i x hx
   have h0 := ax.k
   have h1 := ax.n
   have hb := ax.lt
   have hst : aboveL (l.drop i) m = ((decide (x.k = 2) && decide (m < x.n)) || aboveL (l.drop (i + 1)) m) := by
    rw [List.drop_eq_getElem_cons hll]
    obtain ⟨_, he⟩ := List.getElem?_eq_some_iff.1 hx
    rw [he]
    rfl
   rw [HD.out] at hst
   have HST := Lib.hid hst
   obtain ⟨xk, xn, xs⟩ := x
   simp only at h0 h1 HST
   clear hx ax hst hll HD
   by_cases hk : xk = 2
   ·subst hk
    by_cases hz : m < xn
    ·have t1 : decide (m < xn) = true := decide_eq_true hz
     go_wp2_with fail
     go_ret
     exact ⟨by rw [HST.out, t1]; rfl, rfl⟩
    ·have t1 : decide (m < xn) = false := decide_eq_false hz
     have HN : Hid (aboveL (l.drop (i + 1)) m = R) := Lib.hid (by rw [HST.out, t1]; rfl)
     go_wp2_with fail
     go_roundw
     case rel => exact ⟨i + 1, by go_num, by omega, HN, by first | rfl | trivial⟩
     case measure => simp [intOf]; omega
   ·have t2 : (xk == 2) = false := by simpa using hk
    have HN : Hid (aboveL (l.drop (i + 1)) m = R) := Lib.hid (by rw [HST.out, decide_eq_false hk]; rfl)
    go_wp2_with fail
    go_roundw
    case rel => exact ⟨i + 1, by go_num, by omega, HN, by first | rfl | trivial⟩
    case measure => simp [intOf]; omega
  ·obtain rfl : i = n := by omega
   have hd : decide ((i : Int) < (i : Int)) = false := decide_eq_false (by omega)
   have hd' : decide (i < i) = false := decide_eq_false (by omega)
   have HN : Hid (false = R) := Lib.hid (by rw [← HD.out, List.drop_eq_nil_of_le (by have := HM.out; omega)]; rfl)
   go_wp2_with fail
   go_ret
   exact ⟨by rw [← HN.out]; rfl, rfl⟩
set_option maxRecDepth 100000 in
set_option maxHeartbeats 8000000 in
theorem alike_any (w : World) (ga gb : Nat) (ta tb : Value) (ra rb : List (Nat × Nat)) (Ha Hb : Hp) (t : Vl) (qk ql : Option Addr) (ck cl : Nat) (ks : List Vl) (h1 : HeapIn w ga ta ra Ha) (h2 : HeapIn w gb tb rb Hb) (hla : Ha.tabs.length ≤ 1000000000) (hlb : Hb.tabs.length ≤ 1000000000)
  (hk : ValsAt w qk ks) (hl : ValsAt w ql ks) (hlen : ks.length ≤ 65536) (hn : ∀ k ∈ ks, in64 k.n) (hs : ∀ k ∈ ks, getV Ha t k = getV Hb t k) :
  Calls Tryz.prog 30 #[.pointer (some ⟨ga, 0, none⟩), .pointer (some ⟨gb, 0, none⟩), t.v, .slice qk ks.length ck, .slice ql ks.length cl] w fun e w' => e = .returned (.bool true) ∧ Ext w w' := by
 obtain ⟨tk, tn, ts⟩ := t
 obtain ⟨n, hnn⟩ : ∃ n, ks.length = n := ⟨_, rfl⟩
 have HNN := Lib.hid hnn
 have HE0 := Lib.hid ((Ext.refl w).alloc (.cells #[.int .i64 tk, .int .i64 tn, .string ts] 26))
 have HP := Lib.hid (h1.ext HE0.out)
 have HQ := Lib.hid (h2.ext HE0.out)
 have HK := Lib.hid (hk.ext HE0.out)
 have HLL := Lib.hid (hl.ext HE0.out)
 have HKN := Lib.hid hn
 have HS := Lib.hid hs
 have BT := Lib.hid (Blk.new w 26 #[.int .i64 tk, .int .i64 tn, .string ts])
 rw [hnn] at hlen ⊢
 have hnI : (n : Int) ≤ 65536 := by omega
 clear h1 h2 hk hl hn hs hnn
 show Calls Tryz.prog 30 #[.pointer (some ⟨ga, 0, none⟩), .pointer (some ⟨gb, 0, none⟩), .agg #[.int .i64 tk, .int .i64 tn, .string ts], .slice qk n ck, .slice ql n cl] w _
 go_enter Tryz.func30, Tryz.ntmps30
 have hnn1 : ((n : Int) == (n : Int)) = true := by simp
 go_wp2_with fail
 generalize w.alloc (.cells #[.int .i64 tk, .int .i64 tn, .string ts] 26) = W1 at *
 obtain ⟨tb0, htb0⟩ : ∃ b, w.heap.size = b := ⟨_, rfl⟩
 rw [htb0] at BT ⊢
 clear htb0
 go_loopw [11] (fun s11 wr => ∃ j : Nat, s11 = .int .i64 (j : Int) ∧ j ≤ n ∧ Hid (Ext W1 wr)) (fun s11 _ => n - (intOf s11).toNat)
 case atStart => exact ⟨0, rfl, Nat.zero_le _, Lib.hid (Ext.refl _)⟩
 case round =>
  obtain ⟨j, rfl, hj, HX⟩ := hrel
  have hjI : (j : Int) ≤ 65536 := by omega
  have hj0 : (0 : Int) ≤ (j : Int) := by omega
  by_cases hltj : j < n
  ·have hdj : decide ((j : Int) < (n : Int)) = true := decide_eq_true (by omega)
   have hdj' : decide (j < n) = true := decide_eq_true hltj
   have hltI : (j : Int) < (n : Int) := by omega
   obtain ⟨x, hx⟩ : ∃ x, ks[j]? = some x := ⟨_, List.getElem?_eq_getElem (by have := HNN.out; omega)⟩
   have hxn := HKN.out x (List.mem_of_getElem? hx)
   have hxs := HS.out x (List.mem_of_getElem? hx)
   obtain ⟨kb, ko, rfl, ak⟩ := (HK.out.ext HX.out) j x hx
   obtain ⟨lb, lo, rfl, al⟩ := (HLL.out.ext HX.out) j x hx
   obtain ⟨gv, hgv⟩ : ∃ gv, getV Hb ⟨tk, tn, ts⟩ x = gv := ⟨_, rfl⟩
   have hG := Lib.hid (fun (Z : World) (hZ : Ext wr Z) => get_any ga ta ra Ha ⟨tk, tn, ts⟩ x Z (HP.out.ext (HX.out.trans hZ)) (by omega) hxn)
   have hR := Lib.hid (fun (Z : World) (hZ : Ext wr Z) => get_any gb tb rb Hb ⟨tk, tn, ts⟩ x Z (HQ.out.ext (HX.out.trans hZ)) (by omega) hxn)
   rw [hxs, hgv] at hG
   rw [hgv] at hR
   have d0 := ak.k
   have d1 := ak.n
   have d2 := ak.s
   have hkb := ak.lt
   have f0 := al.k
   have f1 := al.n
   have f2 := al.s
   have hlb1 := al.lt
   obtain ⟨u0, u1, u2, _⟩ := three (BT.out.ext HX.out)
   have htb := (BT.out.ext HX.out).lt
   obtain ⟨k0, n0, s0⟩ := x
   obtain ⟨gk, gn, gs⟩ := gv
   simp only at d0 d1 d2 f0 f1 f2
   clear hx hxn hgv hxs ak al
   go_wp2_with fail
   go_upto_region 6 with (fail)
   go_cut [12] (fun s12 wx => ∃ bv : Nat, s12 = .pointer (some ⟨bv, 0, none⟩) ∧ wr.heap.size ≤ bv ∧ Hid (Blk wx bv 26 #[.int .i64 gk, .int .i64 gn, .string gs] ∧ Ext wr wx))
   case first =>
    have hlowW : wr.heap.size ≤ wr.heap.size := by omega
    have hnb : ¬ wr.heap.size = kb := by omega
    have hnb2 : ¬ kb = wr.heap.size := by omega
    have hnt : ¬ wr.heap.size = tb0 := by omega
    have hnt2 : ¬ tb0 = wr.heap.size := by omega
    go_region_held3 (fun w' => w'.cell? ⟨kb, ko + j * 3, none⟩ = some (.int .i64 k0) ∧ w'.cell? ⟨kb, ko + j * 3 + 1, none⟩ = some (.int .i64 n0) ∧ w'.cell? ⟨kb, ko + j * 3 + 2, none⟩ = some (.string s0) ∧ w'.cell? ⟨tb0, 0, none⟩ = some (.int .i64 tk) ∧ w'.cell? ⟨tb0, 1, none⟩ = some (.int .i64 tn) ∧ w'.cell? ⟨tb0, 2, none⟩ = some (.string ts)) (go_keep)
     (first
      | (go_at_call 39; refine (hG.out _ (by repeat (first | exact Ext.refl _ | refine Ext.drew ?_ | refine Ext.alloc ?_ _))).mono ?_; rintro e w5 ⟨rfl, e5⟩; have E5 := Lib.hid (show Ext wr w5 from Ext.trans (by repeat (first | exact Ext.refl _ | refine Ext.drew ?_ | refine Ext.alloc ?_ _)) e5); have v0 := (E5.out.cells.1 _ _ hkb).trans d0; have v1 := (E5.out.cells.1 _ _ hkb).trans d1; have v2 := (E5.out.cells.1 _ _ hkb).trans d2; have x0 := (E5.out.cells.1 _ _ htb).trans u0; have x1 := (E5.out.cells.1 _ _ htb).trans u1; have x2 := (E5.out.cells.1 _ _ htb).trans u2; have hb5 : kb < w5.heap.size := Nat.lt_of_lt_of_le hkb E5.out.le; have ht5 : tb0 < w5.heap.size := Nat.lt_of_lt_of_le htb E5.out.le; have hm1 : ¬ w5.heap.size = kb := (by omega); have hm2 : ¬ kb = w5.heap.size := (by omega); have hm3 : ¬ w5.heap.size = tb0 := (by omega); have hm4 : ¬ tb0 = w5.heap.size := (by omega); (try (have zz : ZV w5 wr.heap.size := (by first | (with_reducible refine ZV.new _ ?_ e5; (simp; done)) | (with_reducible refine ZV.newd _ ?_ e5; (simp; done))); obtain ⟨zl, zc, zd, ze, zf, zg, zh⟩ := ZV.facts zz; have ZZ := Lib.hid zz; clear zz)); clear e5))
    all_goals go_wp2_with fail
    all_goals (
     go_meet
     first
      | exact ⟨_, rfl, hlowW, Lib.hid ⟨put3 ZZ.out _ _ _, ((E5.out.setCell (Nat.le_refl _) _).setCell (Nat.le_refl _) _).setCell (Nat.le_refl _) _⟩⟩
      | exact ⟨_, rfl, Nat.le_trans hlowW E5.out.le, Lib.hid ⟨Blk.new _ _ _, E5.out.alloc _⟩⟩)
   case rest =>
   obtain ⟨bx, rfl, hbx, HCbx⟩ := hcut
   obtain ⟨wy, rfl⟩ : ∃ wy : World, wy = wc := ⟨_, rfl⟩
   have Ewy := Lib.hid HCbx.out.2
   have Bwy := Lib.hid HCbx.out.1
   replace d0 := (Ewy.out.cells.1 _ _ hkb).trans d0
   replace d1 := (Ewy.out.cells.1 _ _ hkb).trans d1
   replace d2 := (Ewy.out.cells.1 _ _ hkb).trans d2
   replace f0 := (Ewy.out.cells.1 _ _ hlb1).trans f0
   replace f1 := (Ewy.out.cells.1 _ _ hlb1).trans f1
   replace f2 := (Ewy.out.cells.1 _ _ hlb1).trans f2
   replace u0 := (Ewy.out.cells.1 _ _ htb).trans u0
   replace u1 := (Ewy.out.cells.1 _ _ htb).trans u1
   replace u2 := (Ewy.out.cells.1 _ _ htb).trans u2
   replace hkb : kb < wy.heap.size := Nat.lt_of_lt_of_le hkb Ewy.out.le
   replace hlb1 : lb < wy.heap.size := Nat.lt_of_lt_of_le hlb1 Ewy.out.le
   replace htb : tb0 < wy.heap.size := Nat.lt_of_lt_of_le htb Ewy.out.le
   clear HCbx
   have hR2 := Lib.hid (fun (Z : World) (hZ : Ext wy Z) => hR.out Z (Ewy.out.trans hZ))
   clear hG hR
   go_wp2_with fail
   go_upto_region 7 with (fail)
   go_cut [14] (fun s14 wx => ∃ bv : Nat, s14 = .pointer (some ⟨bv, 0, none⟩) ∧ wy.heap.size ≤ bv ∧ Hid (Blk wx bv 26 #[.int .i64 gk, .int .i64 gn, .string gs] ∧ Ext wy wx))
   case first =>
    have hlowW : wy.heap.size ≤ wy.heap.size := by omega
    have hnb : ¬ wy.heap.size = kb := by omega
    have hnb2 : ¬ kb = wy.heap.size := by omega
    have hnt : ¬ wy.heap.size = tb0 := by omega
    have hnt2 : ¬ tb0 = wy.heap.size := by omega
    go_region_held3 (fun w' => w'.cell? ⟨kb, ko + j * 3, none⟩ = some (.int .i64 k0) ∧ w'.cell? ⟨kb, ko + j * 3 + 1, none⟩ = some (.int .i64 n0) ∧ w'.cell? ⟨kb, ko + j * 3 + 2, none⟩ = some (.string s0) ∧ w'.cell? ⟨tb0, 0, none⟩ = some (.int .i64 tk) ∧ w'.cell? ⟨tb0, 1, none⟩ = some (.int .i64 tn) ∧ w'.cell? ⟨tb0, 2, none⟩ = some (.string ts)) (go_keep)
     (first
      | (go_at_call 39; refine (hR2.out _ (by repeat (first | exact Ext.refl _ | refine Ext.drew ?_ | refine Ext.alloc ?_ _))).mono ?_; rintro e w5 ⟨rfl, e5⟩; have E5 := Lib.hid (show Ext wy w5 from Ext.trans (by repeat (first | exact Ext.refl _ | refine Ext.drew ?_ | refine Ext.alloc ?_ _)) e5); have v0 := (E5.out.cells.1 _ _ hkb).trans d0; have v1 := (E5.out.cells.1 _ _ hkb).trans d1; have v2 := (E5.out.cells.1 _ _ hkb).trans d2; have x0 := (E5.out.cells.1 _ _ htb).trans u0; have x1 := (E5.out.cells.1 _ _ htb).trans u1; have x2 := (E5.out.cells.1 _ _ htb).trans u2; have hb5 : kb < w5.heap.size := Nat.lt_of_lt_of_le hkb E5.out.le; have ht5 : tb0 < w5.heap.size := Nat.lt_of_lt_of_le htb E5.out.le; have hm1 : ¬ w5.heap.size = kb := (by omega); have hm2 : ¬ kb = w5.heap.size := (by omega); have hm3 : ¬ w5.heap.size = tb0 := (by omega); have hm4 : ¬ tb0 = w5.heap.size := (by omega); (try (have zz : ZV w5 wy.heap.size := (by first | (with_reducible refine ZV.new _ ?_ e5; (simp; done)) | (with_reducible refine ZV.newd _ ?_ e5; (simp; done))); obtain ⟨zl, zc, zd, ze, zf, zg, zh⟩ := ZV.facts zz; have ZZ := Lib.hid zz; clear zz)); clear e5))
    all_goals go_wp2_with fail
    all_goals (
     go_meet
     first
      | exact ⟨_, rfl, hlowW, Lib.hid ⟨put3 ZZ.out _ _ _, ((E5.out.setCell (Nat.le_refl _) _).setCell (Nat.le_refl _) _).setCell (Nat.le_refl _) _⟩⟩
      | exact ⟨_, rfl, Nat.le_trans hlowW E5.out.le, Lib.hid ⟨Blk.new _ _ _, E5.out.alloc _⟩⟩)
   case rest =>
   obtain ⟨by_, rfl, hby_, HCby_⟩ := hcut
   obtain ⟨wz, rfl⟩ : ∃ wy : World, wy = wc := ⟨_, rfl⟩
   have Ewz := Lib.hid HCby_.out.2
   have Bwz := Lib.hid HCby_.out.1
   replace d0 := (Ewz.out.cells.1 _ _ hkb).trans d0
   replace d1 := (Ewz.out.cells.1 _ _ hkb).trans d1
   replace d2 := (Ewz.out.cells.1 _ _ hkb).trans d2
   replace f0 := (Ewz.out.cells.1 _ _ hlb1).trans f0
   replace f1 := (Ewz.out.cells.1 _ _ hlb1).trans f1
   replace f2 := (Ewz.out.cells.1 _ _ hlb1).trans f2
   replace u0 := (Ewz.out.cells.1 _ _ htb).trans u0
   replace u1 := (Ewz.out.cells.1 _ _ htb).trans u1
   replace u2 := (Ewz.out.cells.1 _ _ htb).trans u2
   replace hkb : kb < wz.heap.size := Nat.lt_of_lt_of_le hkb Ewz.out.le
   replace hlb1 : lb < wz.heap.size := Nat.lt_of_lt_of_le hlb1 Ewz.out.le
   replace htb : tb0 < wz.heap.size := Nat.lt_of_lt_of_le htb Ewz.out.le
   clear HCby_
   obtain ⟨b0, b1, b2, _⟩ := three Bwz.out
   obtain ⟨a0, a1, a2, _⟩ := three (Bwy.out.ext Ewz.out)
   have hbl : bx < wz.heap.size := (Bwy.out.ext Ewz.out).lt
   have hbl2 : by_ < wz.heap.size := Bwz.out.lt
   have EF := Lib.hid (HX.out.trans (Ewy.out.trans Ewz.out))
   have hgu := fun a b x y W => vl_guard .neq (.inr rfl) a b x y W
   have hv1 : ∀ W, (binOp .neq 26 (vv k0 n0 s0) (vv k0 n0 s0)).run Tryz.prog W = .ok (.bool false) W := fun W => by have := vl_neq ⟨k0, n0, s0⟩ ⟨k0, n0, s0⟩ W; simpa using this
   have hv2 : ∀ W, (binOp .neq 26 (vv gk gn gs) (vv gk gn gs)).run Tryz.prog W = .ok (.bool false) W := fun W => by have := vl_neq ⟨gk, gn, gs⟩ ⟨gk, gn, gs⟩ W; simpa using this
   clear hR2 Ewy Ewz Bwy Bwz
   go_wp2_with fail
   go_region_held3 (fun w' => w'.cell? ⟨kb, ko + j * 3, none⟩ = some (.int .i64 k0) ∧ w'.cell? ⟨kb, ko + j * 3 + 1, none⟩ = some (.int .i64 n0) ∧ w'.cell? ⟨kb, ko + j * 3 + 2, none⟩ = some (.string s0) ∧ w'.cell? ⟨lb, lo + j * 3, none⟩ = some (.int .i64 k0) ∧ w'.cell? ⟨lb, lo + j * 3 + 1, none⟩ = some (.int .i64 n0) ∧ w'.cell? ⟨lb, lo + j * 3 + 2, none⟩ = some (.string s0) ∧ w'.cell? ⟨bx, 0, none⟩ = some (.int .i64 gk) ∧ w'.cell? ⟨bx, 1, none⟩ = some (.int .i64 gn) ∧ w'.cell? ⟨bx, 2, none⟩ = some (.string gs) ∧ w'.cell? ⟨by_, 0, none⟩ = some (.int .i64 gk) ∧ w'.cell? ⟨by_, 1, none⟩ = some (.int .i64 gn) ∧ w'.cell? ⟨by_, 2, none⟩ = some (.string gs)) (go_keep) (skip)
   all_goals go_wp2_with fail
   all_goals (
    go_roundw
    case rel => exact ⟨j + 1, by go_num, by omega, Lib.hid EF.out.drew⟩
    case measure => simp [intOf]; omega)
  ·obtain rfl : j = n := by omega
   have hdj : decide ((j : Int) < (j : Int)) = false := decide_eq_false (by omega)
   have hdj' : decide (j < j) = false := decide_eq_false (by omega)
   go_wp2_with fail
   go_ret
   exact ⟨rfl, HE0.out.trans HX.out⟩
end Go.Proofs.YtfagldjhibdfhaaGreatDoor
