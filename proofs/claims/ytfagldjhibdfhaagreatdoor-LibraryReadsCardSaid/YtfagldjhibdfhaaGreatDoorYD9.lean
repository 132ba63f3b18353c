/- The document's concat. The document's insert. -/
import Derived.Test.YtfagldjhibdfhaaGreatDoorYD8
import Derived.Test.YtfagldjhibdfhaaGreatDoorYA9
import Derived.Test.YtfagldjhibdfhaaGreatDoorYB1
import Derived.Test.YtfagldjhibdfhaaGreatDoorYA8
import Derived.Deep.DeepCutAuto
import Derived.Deep.CutBlock
namespace Go.Proofs.YtfagldjhibdfhaaGreatDoor
open Go.RowKit
set_option linter.unusedVariables false
set_option linter.unusedSimpArgs false

theorem told_len (v : Vl) (h : v.s.size ≤ 1048576) (hn : in64 v.n) : (toldV v).size ≤ 1048576 := by
 have hi : (ba (Lib.itoa v.n)).size ≤ 21 := by
  rw [ba_size]
  exact Lib.itoa_length_le _ hn.1 hn.2
 unfold toldV
 split
 ·decide
 ·split
  ·split <;> decide
  ·split
   ·omega
   ·split
    ·exact h
    ·rw [ByteArray.size_append]
     have : sTable.size = 6 := rfl
     omega
theorem cat_step (H : Hp) (t : Vl) (sep : List UInt8) (r : Nat) (i : Int) (out : List UInt8) : catP H t sep (r + 1) i out =
  if (getV H t (iK i)).k = 3 ∨ (getV H t (iK i)).k = 2 then
   if (((if 1 < i then sep else []) ++ (toldV (getV H t (iK i))).data.toList).length : Int) ≤ 1048576 - out.length then catP H t sep r (i + 1) (out ++ ((if 1 < i then sep else []) ++ (toldV (getV H t (iK i))).data.toList)) else .error sLong
  else .error sType := rfl
def catE (H : Hp) (x : Except ByteArray (List UInt8)) : Rs := match x with | .error w => .no H w | .ok x => mkR H (ba x)
set_option maxRecDepth 100000 in
set_option maxHeartbeats 4000000 in
theorem rconcat_any (g : Nat) (tv : Value) (H : Hp) (w : World) (h : RHeapIn w g tv H) (hL : LLaid w) (hlen : H.tabs.length ≤ 9223372036854775807) (x0 : Vl) (hof : ofW H x0 = sNone) (sep : ByteArray) (hsz : sep.size ≤ 1048576) :
  Calls Tryz.prog 122 #[.pointer (some ⟨g, 0, none⟩), x0.v, .string sep] w (RdE w g tv (concatR H x0 sep)) := by
 have HI0 := Lib.hid h
 have HL := Lib.hid hL
 have HOK := Lib.hid h.ok
 have hT := tabOf_ok h.ok (ofW_none hof).2.2.2.2
 have hl0 := (lenV_tab hof).1
 have hmost := Nat.le_trans (tlen_le hT) hT.most
 obtain ⟨n, hn⟩ : ∃ n : Nat, lenV H x0 = (n : Int) := ⟨_, hl0⟩
 have hn2 : n ≤ 65536 := by omega
 have hgl := h.head.lt
 obtain ⟨r, hr⟩ : ∃ r, concatR H x0 sep = r := ⟨_, rfl⟩
 rw [hr]
 obtain ⟨rc, hrc⟩ : ∃ rc, catP H x0 sep.data.toList n 1 [] = rc := ⟨_, rfl⟩
 have HR : Hid (r = catE H rc) := Lib.hid (by
  rw [← hr]
  unfold concatR
  rw [hn, Int.toNat_natCast, hrc]
  rfl)
 have HRC := Lib.hid hrc
 have hw2 := (lenV_tab hof).2
 obtain ⟨k0, n0, s0⟩ := x0
 have HB := Lib.hid (show Blk ((w.alloc (.cells #[.int .i64 k0, .int .i64 n0, .string s0] 26)).alloc (.cells #[.int .i64 0, .int .i64 0, .string ⟨#[]⟩] 26)) (w.heap.size + 1) 26 #[.int .i64 0, .int .i64 0, .string ⟨#[]⟩] from by
  have := Blk.new (w.alloc (.cells #[.int .i64 k0, .int .i64 n0, .string s0] 26)) 26 #[.int .i64 0, .int .i64 0, .string ⟨#[]⟩]
  rwa [size_alloc] at this)
 have HA := Lib.hid (show Blk ((w.alloc (.cells #[.int .i64 k0, .int .i64 n0, .string s0] 26)).alloc (.cells #[.int .i64 0, .int .i64 0, .string ⟨#[]⟩] 26)) w.heap.size 26 #[.int .i64 k0, .int .i64 n0, .string s0] from (Blk.new w _ _).alloc _)
 have HW := Lib.hid (((Ext.refl w).alloc (.cells #[.int .i64 k0, .int .i64 n0, .string s0] 26)).alloc (.cells #[.int .i64 0, .int .i64 0, .string ⟨#[]⟩] 26))
 have cL := fun (W : World) (hW : RHeapIn W g tv H) => rlen_any g tv H ⟨k0, n0, s0⟩ W hW hlen
 rw [hn, hw2] at cL
 have CL := Lib.hid cL
 have HN := Lib.hid hn
 have HOF := Lib.hid hof
 have hq : sNone.toList = [] := sNone_list
 clear hn hl0 hT hmost hr h hL hw2 hrc cL hof
 go_enter Tryz.func122, Tryz.ntmps122
 go_wp2_with fail
 refine (CL.out _ (HI0.out.ext HW.out)).mono ?_
 rintro e w1 ⟨rfl, e1⟩
 replace HB := Lib.hid (HB.out.ext e1)
 replace HA := Lib.hid (HA.out.ext e1)
 replace HW := Lib.hid (HW.out.trans e1)
 have hz1 := e1.le
 have hz2 : w.heap.size + 2 ≤ w1.heap.size := by simpa using hz1
 clear e1 CL hz1
 go_wp2_with fail
 go_loopw [10, 11] (fun s10 s11 wr => ∃ (j : Nat) (acc : List UInt8), s11 = .int .i64 ((j : Int) + 1) ∧ j ≤ n ∧ acc.length ≤ 1048576 ∧ Hid (OwnB wr w1.heap.size s10 acc) ∧ Hid (Ext w1 wr) ∧ Hid (catP H ⟨k0, n0, s0⟩ sep.data.toList (n - j) ((j : Int) + 1) acc = rc)) (fun _ s11 _ => n + 1 - (intOf s11).toNat)
 case atStart => exact ⟨0, [], rfl, Nat.zero_le _, Nat.zero_le _, Lib.hid (OwnB.nil _ _), Lib.hid (Ext.refl _), HRC⟩
 case round =>
  obtain ⟨j, acc, rfl, hj, hacc, HO, HE, HC⟩ := hrel
  obtain ⟨q0, c0, rfl⟩ := HO.out.slice
  have hjI : (j : Int) ≤ 65536 := by omega
  have hj0 : (0 : Int) ≤ (j : Int) := by omega
  by_cases hlt : j < n
  ·have hd : decide ((j : Int) + 1 ≤ (n : Int)) = true := decide_eq_true (by omega)
   have hd2 : decide ((j : Int) < (n : Int)) = true := decide_eq_true (by omega)
   have hG := Lib.hid (fun (Z : World) (hZ : RHeapIn Z g tv H) => rget_any g tv H ⟨k0, n0, s0⟩ (iK ((j : Int) + 1)) Z hZ hlen)
   rw [getW_int HOF.out] at hG
   obtain ⟨gv, hgv⟩ : ∃ gv, getV H ⟨k0, n0, s0⟩ (iK ((j : Int) + 1)) = gv := ⟨_, rfl⟩
   have hgo := getV_ok HOK.out ⟨k0, n0, s0⟩ (iK ((j : Int) + 1))
   rw [hgv] at hG hgo
   have HGO := Lib.hid hgo
   have HCS := HC.out
   obtain ⟨m, hm⟩ : ∃ m, n - j = m + 1 := ⟨n - j - 1, by omega⟩
   rw [hm, cat_step, hgv] at HCS
   have HCS := Lib.hid HCS
   have hwr : IntKind.i64.wrap ((j : Int) + 1 + 1) = (j : Int) + 1 + 1 := IntWalk.i64_in _ (by omega)
   have HX := Lib.hid (HI0.out.ext (HW.out.trans HE.out))
   have HBr := Lib.hid (HB.out.ext HE.out)
   have hbA := (HA.out.ext HE.out)
   obtain ⟨a0, a1, a2, f0, f1, f2⟩ := three hbA
   have hba : w.heap.size + 2 ≤ wr.heap.size := Nat.le_trans hz2 HE.out.le
   have HMM := Lib.hid hm
   clear hgv hgo hbA hm HC
   obtain ⟨gk, gn, gs⟩ := gv
   go_wp2_with fail
   go_upto_region 6 with (fail)
   go_cut [12] (fun s12 wx => ∃ bv : Nat, s12 = .pointer (some ⟨bv, 0, none⟩) ∧ (w.heap.size + 2) ≤ bv ∧ Hid (Blk wx bv 26 #[.int .i64 gk, .int .i64 gn, .string gs] ∧ Ext wr wx))
   case first =>
    have hlowW : (w.heap.size + 2) ≤ wr.heap.size := by omega
    have hnb : ¬ wr.heap.size = w.heap.size := by omega
    have hnb2 : ¬ w.heap.size = wr.heap.size := by omega
    have hbS : w.heap.size < wr.heap.size := by omega
    go_region_held3 (fun w' => w'.cell? ⟨w.heap.size, 0, none⟩ = some (.int .i64 k0) ∧ w'.cell? ⟨w.heap.size, 1, none⟩ = some (.int .i64 n0) ∧ w'.cell? ⟨w.heap.size, 2, none⟩ = some (.string s0)) (go_keep)
     (first
      | (go_at_call 116; refine (rnumber_any _ _).mono ?_; rintro e w3 ⟨rfl, e3⟩; have E3 := Lib.hid (show Ext wr w3 from Ext.trans (by repeat (first | exact Ext.refl _ | refine Ext.drew ?_ | refine Ext.alloc ?_ _)) e3); have x0 := (E3.out.cells.1 _ _ hbS).trans a0; have x1 := (E3.out.cells.1 _ _ hbS).trans a1; have x2 := (E3.out.cells.1 _ _ hbS).trans a2; have L3 : w.heap.size < w3.heap.size := Nat.lt_of_lt_of_le hbS E3.out.le; have nn3 : ¬ w3.heap.size = w.heap.size := Nat.ne_of_gt L3; have nm3 : ¬ w.heap.size = w3.heap.size := Nat.ne_of_lt L3; (try (have hq : Ext (World.alloc wr.drew (.cells #[.int .i64 0, .int .i64 0, .string ⟨#[]⟩] 26)) w3 := (by with_reducible exact e3); have ZA := Lib.hid (ZV.new wr.heap.size rfl hq); clear hq)); (try (have hq : Ext (World.drew (World.alloc wr (.cells #[.int .i64 0, .int .i64 0, .string ⟨#[]⟩] 26))) w3 := (by with_reducible exact e3); have ZA := Lib.hid (ZV.newd wr.heap.size rfl hq); clear hq)); clear e3)
      | (go_at_call 89; refine (hG.out _ (by repeat (first | exact HX.out.ext E3.out | refine RHeapIn.ext ?_ (Ext.alloc (Ext.refl _) _)))).mono ?_; rintro e w5 ⟨rfl, e5⟩; have E5 := Lib.hid (show Ext wr w5 from Ext.trans (by repeat (first | exact E3.out | refine Ext.alloc ?_ _)) e5); have v0 := (E5.out.cells.1 _ _ hbS).trans a0; have v1 := (E5.out.cells.1 _ _ hbS).trans a1; have v2 := (E5.out.cells.1 _ _ hbS).trans a2; have L5 : w.heap.size < w5.heap.size := Nat.lt_of_lt_of_le hbS E5.out.le; have nn5 : ¬ w5.heap.size = w.heap.size := Nat.ne_of_gt L5; have nm5 : ¬ w.heap.size = w5.heap.size := Nat.ne_of_lt L5; (try (have hz : Hid (ZV w3 wr.heap.size) := (by with_reducible assumption); have ZZ := Lib.hid (hz.out.ext e5); obtain ⟨zl, zv0, zv1, zv2, zf0, zf1, zf2⟩ := ZZ.out.facts; clear hz)); (try (have hq : Ext (World.alloc w3 (.cells #[.int .i64 0, .int .i64 0, .string ⟨#[]⟩] 26)) w5 := (by with_reducible exact e5); have ZZ := Lib.hid (ZV.new w3.heap.size rfl hq); obtain ⟨zl, zv0, zv1, zv2, zf0, zf1, zf2⟩ := ZZ.out.facts; clear hq)); clear e5))
    all_goals go_wp2_with fail
    all_goals (
     go_meet
     first
      | exact ⟨_, rfl, hlowW, Lib.hid ⟨put3 ZZ.out _ _ _, ((E5.out.setCell (Nat.le_refl _) _).setCell (Nat.le_refl _) _).setCell (Nat.le_refl _) _⟩⟩
      | exact ⟨_, rfl, Nat.le_trans hlowW E3.out.le, Lib.hid ⟨put3 ZZ.out _ _ _, ((E5.out.setCell E3.out.le _).setCell E3.out.le _).setCell E3.out.le _⟩⟩
      | exact ⟨_, rfl, Nat.le_trans hlowW E5.out.le, Lib.hid ⟨Blk.new _ _ _, E5.out.alloc _⟩⟩)
   case rest =>
    obtain ⟨bv, rfl, hbv, HXX⟩ := hcut
    obtain ⟨wx, rfl⟩ : ∃ wx : World, wx = wc := ⟨_, rfl⟩
    have EX := Lib.hid (HE.out.trans HXX.out.2)
    have HOX := Lib.hid (HO.out.ext HXX.out.2)
    have HBX := Lib.hid (HBr.out.ext HXX.out.2)
    obtain ⟨v0, v1, v2, g0, g1, g2⟩ := three HXX.out.1
    have hbl : bv < wx.heap.size := HXX.out.1.lt
    have hwx : w1.heap.size ≤ wx.heap.size := EX.out.le
    clear HXX HO HE HBr HX hG a0 a1 a2 f0 f1 f2 hba
    by_cases hk : gk = 3 ∨ gk = 2
    rotate_left
    ·have t1 : (gk != 3) = true := by rw [bne_iff_ne]; exact fun e => hk (.inl e)
     have t2 : (gk != 2) = true := by rw [bne_iff_ne]; exact fun e => hk (.inr e)
     have HV : Hid (r = Rs.no H sType) := Lib.hid (by
      have := HCS.out
      rw [if_neg hk] at this
      rw [HR.out, ← this]
      rfl)
     have HWX := Lib.hid (HW.out.trans EX.out)
     obtain ⟨z0, z1, z2, y0, y1, y2⟩ := three HBX.out
     have hlt2 := HBX.out.lt
     clear hk HCS
     go_wp2_with fail
     exact bodyPost_ret (v := .tuple #[Vl.zero.v, .string sType]) (by simp [results, Tryz.results122, go_sem, Vl.zero, sType, *]) rfl (by rw [HV.out]; exact RdE.no HI0.out (by decide) (by repeat (first | exact HWX.out | refine Ext.alloc ?_ _ | refine Ext.setCell ?_ (by simp <;> omega) _)))
    have hCS2 := HCS.out
    rw [if_pos hk] at hCS2
    have htb : (toldV ⟨gk, gn, gs⟩).size ≤ 1048576 := told_len _ HGO.out.2.2 HGO.out.1
    have cT := Lib.hid (fun (Z : World) (hZ : Ext w Z) => rtold_any ⟨gk, gn, gs⟩ (ck_kind HGO.out.2.1) HGO.out.1 Z (HL.out.ext hZ).pow)
    obtain ⟨tx, htx⟩ : ∃ tx, toldV ⟨gk, gn, gs⟩ = tx := ⟨_, rfl⟩
    rw [htx] at cT htb hCS2
    have HCS2 := Lib.hid hCS2
    clear hCS2 HCS htx
    have hkk : ((gk != 3) = false ∧ gk = 3) ∨ ((gk != 3) = true ∧ (gk != 2) = false) := by
     rcases hk with rfl | rfl
     ·exact .inl ⟨by decide, rfl⟩
     ·exact .inr ⟨by decide, by decide⟩
    have HWX := Lib.hid (HW.out.trans EX.out)
    have HG8 : Hid (∀ s2 : ByteArray, s2.data.toList = (if (1 : Int) < (j : Int) + 1 then sep.data.toList else []) ++ tx.data.toList → (if (s2.size : Int) ≤ 1048576 - acc.length then catP H ⟨k0, n0, s0⟩ sep.data.toList m ((j : Int) + 1 + 1) (acc ++ s2.data.toList) else .error sLong) = rc) := Lib.hid (fun s2 h2 => by
     have h3 := HCS2.out
     rw [← h2] at h3
     exact h3)
    clear hk HCS2 HGO HRC
    rcases hkk with ⟨t1, rfl⟩ | ⟨t1, t2⟩
    all_goals (
     go_wp2_with fail
     refine (cT.out _ HWX.out).mono ?_
     rintro e w8 ⟨rfl, e8⟩
     have E8 := Lib.hid (EX.out.trans e8)
     have O8 := Lib.hid (HOX.out.ext e8)
     have B8 := Lib.hid (HBX.out.ext e8)
     have W8 := Lib.hid (HWX.out.trans e8)
     have hz8 : w.heap.size + 2 ≤ w8.heap.size := Nat.le_trans hz2 E8.out.le
     clear e8 EX HOX HBX HWX v0 v1 v2 g0 g1 g2 hbl hwx cT t1
     have hsplit : (decide ((1 : Int) < (j : Int) + 1) = false ∧ ∃ s2, tx = s2 ∧ s2.data.toList = (if (1 : Int) < (j : Int) + 1 then sep.data.toList else []) ++ tx.data.toList ∧ s2.size ≤ 2097152) ∨ (decide ((1 : Int) < (j : Int) + 1) = true ∧ ∃ s2, sep ++ tx = s2 ∧ s2.data.toList = (if (1 : Int) < (j : Int) + 1 then sep.data.toList else []) ++ tx.data.toList ∧ s2.size ≤ 2097152) := by
      by_cases hj1 : (1 : Int) < (j : Int) + 1
      ·refine .inr ⟨decide_eq_true hj1, _, rfl, ?_, ?_⟩
       ·rw [if_pos hj1, ByteArray.data_append, Array.toList_append]
       ·rw [ByteArray.size_append]; omega
      ·refine .inl ⟨decide_eq_false hj1, _, rfl, ?_, by omega⟩
       rw [if_neg hj1]; rfl
     rcases hsplit with ⟨q1, s2, hs2, h2, h2z⟩ | ⟨q1, s2, hs2, h2, h2z⟩
     all_goals (
      have q2 : decide (0 < j) = decide ((1 : Int) < (j : Int) + 1) := by rw [decide_eq_decide]; omega
      have q3 : decide ((0 : Int) < (j : Int)) = decide ((1 : Int) < (j : Int) + 1) := by rw [decide_eq_decide]; omega
      rw [q1] at q2 q3
      have qz : ¬ 9223372036854775807 < sep.size + tx.size := by omega
      have HG9 := HG8.out s2 h2
      by_cases hfit : (s2.size : Int) ≤ 1048576 - acc.length
      ·rw [if_pos hfit] at HG9
       have HG10 := Lib.hid HG9
       have t3 : decide ((1048576 : Int) - (acc.length : Int) < (s2.size : Int)) = false := decide_eq_false (by omega)
       have hal : (acc.length : Int) ≤ 1048576 := by omega
       obtain ⟨c2, hconv, v2', w2', hrun, happ⟩ := app_str w8 135 w1.heap.size _ acc s2 O8.out E8.out.le (by omega)
       have E9 := Lib.hid (happ.ext (E8.out.trans (bytes_ext w8 s2)) (Nat.le_refl _))
       have O9 := Lib.hid happ.own
       have HRUN := Lib.hid hrun
       have hl9 : (acc ++ s2.data.toList).length ≤ 1048576 := by
        rw [List.length_append]
        have : s2.data.toList.length = s2.size := rfl
        omega
       clear happ hrun hfit HG9 h2 h2z hl9
       have hl9 : (acc ++ s2.data.toList).length ≤ 1048576 := by
        rw [List.length_append]
        have h5 : s2.data.toList.length = s2.size := rfl
        have h6 := of_decide_eq_false t3
        omega
       have HL9 := Lib.hid hl9
       clear hl9
       go_wp2_with (at_builtin; refine wpList_append_run rfl _ _ 135 rfl _ _ _ _ rfl rfl HRUN.out ?_)
       go_roundw
       case rel => exact ⟨j + 1, acc ++ s2.data.toList, by go_num, by omega, HL9.out, O9, E9, Lib.hid (by have h7 := HG10.out; rw [show n - (j + 1) = m from by have := HMM.out; omega]; exact h7)⟩
       case measure => simp [intOf]; omega
      ·rw [if_neg hfit] at HG9
       have t3 : decide ((1048576 : Int) - (acc.length : Int) < (s2.size : Int)) = true := decide_eq_true (by omega)
       have HV : Hid (r = Rs.no H sLong) := Lib.hid (by rw [HR.out, ← HG9]; rfl)
       obtain ⟨z0, z1, z2, y0, y1, y2⟩ := three B8.out
       have hlt2 := B8.out.lt
       clear HG9 hfit h2 h2z HG8
       go_wp2_with fail
       exact bodyPost_ret (v := .tuple #[Vl.zero.v, .string sLong]) (by simp [results, Tryz.results122, go_sem, Vl.zero, sLong, *]) rfl (by rw [HV.out]; exact RdE.no HI0.out (by decide) (by repeat (first | exact W8.out | refine Ext.alloc ?_ _ | refine Ext.setCell ?_ (by simp <;> omega) _)))))
  ·obtain rfl : j = n := by omega
   have hd : decide ((j : Int) + 1 ≤ (j : Int)) = false := decide_eq_false (by omega)
   have hd2 : decide ((j : Int) < (j : Int)) = false := decide_eq_false (by omega)
   have hcv := HO.out.conv
   have HWR := Lib.hid (HW.out.trans HE.out)
   have HM := Lib.hid (rmade_any g tv H ⟨acc.toArray⟩ wr (HI0.out.ext HWR.out) (by show acc.toArray.size ≤ _; simp; omega))
   have HBR := Lib.hid (HB.out.ext HE.out)
   unfold MadeE at HM
   have HV2 : Hid (mkR H ⟨acc.toArray⟩ = r) := Lib.hid (by
    have h7 := HC.out
    rw [Nat.sub_self] at h7
    rw [HR.out, ← h7]
    rfl)
   rw [HV2.out] at HM
   obtain ⟨rv, rw', rH⟩ := r
   simp only at HM
   clear HC
   go_wp2_with fail
   refine HM.out.mono ?_
   rintro e w2 ⟨rfl, ho⟩
   have HO2 := Lib.hid (ROnly.pre HWR.out ho)
   have HB2 := Lib.hid (HBR.out.only ho.only (by omega))
   clear ho HM
   obtain ⟨z0, z1, z2, y0, y1, y2⟩ := three HB2.out
   have hlt2 := HB2.out.lt
   unfold Vl.v
   go_wp2_with fail
   exact bodyPost_ret (v := .tuple #[rv.v, .string rw']) (by simp [results, Tryz.results122, go_sem, Vl.v, *]) rfl (by rw [← HV2.out]; exact MadeE.rd HI0.out ⟨by rw [HV2.out], HO2.out.set3 hgl (by omega) _ _ _⟩)
end Go.Proofs.YtfagldjhibdfhaaGreatDoor
namespace Go.Proofs.YtfagldjhibdfhaaGreatDoor
open Go.RowKit
set_option linter.unusedVariables false
set_option linter.unusedSimpArgs false

theorem zset {w : World} {B : Nat} (h : Blk w B 26 zcells) : (((w.setCell ⟨B, 0, none⟩ (.int .i64 0)).setCell ⟨B, 1, none⟩ (.int .i64 0)).setCell ⟨B, 2, none⟩ (.string ⟨#[]⟩)) = w := by
 have hB := put3 h (.int .i64 0) (.int .i64 0) (.string ⟨#[]⟩)
 have hh : (((w.setCell ⟨B, 0, none⟩ (.int .i64 0)).setCell ⟨B, 1, none⟩ (.int .i64 0)).setCell ⟨B, 2, none⟩ (.string ⟨#[]⟩)).heap = w.heap := by
  apply Array.ext_getElem?
  intro k
  by_cases hk : k = B
  ·subst hk
   exact Eq.trans hB (Eq.symm h)
  ·exact (Below.heap_setCell _ _ _ k hk).trans ((Below.heap_setCell _ _ _ k hk).trans (Below.heap_setCell _ _ _ k hk))
 cases w
 simp only [World.setCell] at hh ⊢
 congr 1
structure RLpI (w wr : World) (g : Nat) (tv : Value) (H : Hp) (t v : Vl) (bv : Nat) (Hc : Hp) : Prop where
 heap : RHeapIn wr g tv Hc
 touch : Touch (RFoot g tv) w wr
 len : Hc.tabs.length = H.tabs.length
 of : ofW Hc t = sNone
 low : w.heap.size < bv
 box : Blk wr bv 26 #[.int .i64 v.k, .int .i64 v.n, .string v.s]
 res : Blk wr w.heap.size 26 zcells
section
variable {w wr w' Z : World} {g bv : Nat} {tv : Value} {H Hc : Hp} {t v k x : Vl}
theorem RLpI.set (h : RLpI w wr g tv H t v bv Hc) (hn : ∀ x, w.heap.size ≤ x → ¬ RFoot g tv x) (hZ : Ext wr Z) (hh : RHeapIn w' g tv (setH Hc t k x)) (ht : Touch (RFoot g tv) Z w') : RLpI w w' g tv H t v bv (setH Hc t k x) := by
 have ht2 := Touch.pre hZ ht
 exact ⟨hh, h.touch.trans ht2, by rw [setH_len]; exact h.len, by rw [ofW_set]; exact h.of, h.low, (ht2.block _ h.box.lt (hn _ (Nat.le_of_lt h.low))).trans h.box, (ht2.block _ h.res.lt (hn _ (Nat.le_refl _))).trans h.res⟩
theorem RLpI.ext (h : RLpI w wr g tv H t v bv Hc) (hZ : Ext wr Z) : RLpI w Z g tv H t v bv Hc := ⟨h.heap.ext hZ, h.touch.ext hZ, h.len, h.of, h.low, h.box.ext hZ, h.res.ext hZ⟩
theorem RLpI.done {r : Rs} {x : Vl} {o : ByteArray} (h : RLpI w wr g tv H t v bv Hc) (h1 : r.w = o) (h2 : r.H = Hc) (h3 : x = if r.w = sNone then r.v else Vl.zero) (u0 u1 u2 : Value) :
  RdE w g tv r (.returned (.tuple #[x.v, .string o])) (((wr.setCell ⟨w.heap.size, 0, none⟩ u0).setCell ⟨w.heap.size, 1, none⟩ u1).setCell ⟨w.heap.size, 2, none⟩ u2) := by
 subst h1 h2 h3
 exact ⟨rfl, (RS.zeroed (RS.of_touch h.heap h.touch) h.res (Nat.le_refl _) u0 u1 u2).step⟩
theorem RLpI.done' {r : Rs} {x : Vl} {o : ByteArray} (h : RLpI w wr g tv H t v bv Hc) (h1 : r.w = o) (h2 : r.H = Hc) (h3 : x = if r.w = sNone then r.v else Vl.zero) : RdE w g tv r (.returned (.tuple #[x.v, .string o])) wr := by
 subst h1 h2 h3
 exact ⟨rfl, (RS.of_touch h.heap h.touch).step⟩
end
theorem str_ne_empty {s : ByteArray} (h : ¬ s = sNone) : s.toList.isEmpty = false := by
 cases hw : s.toList with
 | nil => exact absurd (toList_nil hw) h
 | cons _ _ => rfl
set_option maxRecDepth 100000 in
set_option maxHeartbeats 8000000 in
theorem rinsert2 (g : Nat) (tv : Value) (H : Hp) (w : World) (h : RHeapIn w g tv H) (hlen : H.tabs.length ≤ 9223372036854775807) (b o cap : Nat) (x0 x1 : Vl) (hof : ofW H x0 = sNone) (hv : in64 x1.n) (a0 : ArgAt w b o x0) (a2 : ArgAt w b (o + 3) x1) (nb : ¬ RFoot g tv b) :
  Calls Tryz.prog 123 #[.pointer (some ⟨g, 0, none⟩), .slice (some ⟨b, o, none⟩) 2 cap] w (RdE w g tv (insertR H x0 (lenV H x0 + 1) x1)) := by
 have HI0 := Lib.hid h
 have hT := tabOf_ok h.ok (ofW_none hof).2.2.2.2
 have hl0 := (lenV_tab hof).1
 have hmost := Nat.le_trans (tlen_le hT) hT.most
 obtain ⟨n, hn⟩ : ∃ n : Nat, lenV H x0 = (n : Int) := ⟨_, hl0⟩
 have hn2 : n ≤ 65536 := by omega
 have HB := Lib.hid (Blk.new w 26 #[.int .i64 0, .int .i64 0, .string ⟨#[]⟩])
 have HW := Lib.hid ((Ext.refl w).alloc (.cells #[.int .i64 0, .int .i64 0, .string ⟨#[]⟩] 26))
 have HNF : Hid (∀ x, w.heap.size ≤ x → ¬ RFoot g tv x) := Lib.hid (fun x hx hf => by have := HI0.out.low hf; omega)
 have hw2 := (lenV_tab hof).2
 have cL := Lib.hid (fun (W : World) (hW : RHeapIn W g tv H) => rlen_any g tv H x0 W hW hlen)
 rw [hn, hw2] at cL
 obtain ⟨r, hr⟩ : ∃ r, insertR H x0 (lenV H x0 + 1) x1 = r := ⟨_, rfl⟩
 rw [hr]
 rw [hn] at hr
 have HR := Lib.hid hr
 obtain ⟨k0, n0, s0⟩ := x0
 obtain ⟨kv, nv, sv⟩ := x1
 have c0 := (a0.ext HW.out).k
 have c1 := (a0.ext HW.out).n
 have c2 := (a0.ext HW.out).s
 have d0 := (a2.ext HW.out).k
 have d1 := (a2.ext HW.out).n
 have d2 := (a2.ext HW.out).s
 simp only at c0 c1 c2 d0 d1 d2 hv
 have hb := a0.lt
 have HA0 := Lib.hid a0
 have HNN := Lib.hid hn
 have HOF := Lib.hid hof
 have HVN := Lib.hid hv
 have hq : sNone.toList = [] := sNone_list
 clear hn hl0 hT hmost hr h a0 a2 hof hw2 hv
 go_enter Tryz.func123, Tryz.ntmps123
 go_wp2_with fail
 refine (cL.out _ (HI0.out.ext HW.out)).mono ?_
 rintro e w1 ⟨rfl, e1x⟩
 have hbW0 : b < (w.alloc (.cells #[.int .i64 0, .int .i64 0, .string ⟨#[]⟩] 26)).heap.size := Nat.lt_of_lt_of_le hb HW.out.le
 replace c0 := (e1x.cells.1 b o hbW0).trans c0
 replace c1 := (e1x.cells.1 b (o + 1) hbW0).trans c1
 replace c2 := (e1x.cells.1 b (o + 2) hbW0).trans c2
 replace d0 := (e1x.cells.1 b (o + 3) hbW0).trans d0
 replace d1 := (e1x.cells.1 b (o + 3 + 1) hbW0).trans d1
 replace d2 := (e1x.cells.1 b (o + 3 + 2) hbW0).trans d2
 replace HB := Lib.hid (HB.out.ext e1x)
 replace HW := Lib.hid (HW.out.trans e1x)
 clear e1x cL hbW0
 have hbW : b < w1.heap.size := Nat.lt_of_lt_of_le hb HW.out.le
 have hwW : w.heap.size < w1.heap.size := HB.out.lt
 have hne1 : ¬ w1.heap.size = b := by omega
 have hne2 : ¬ b = w1.heap.size := by omega
 have hwn : IntKind.i64.wrap ((n : Int) + 1) = (n : Int) + 1 := IntWalk.i64_in _ (by omega)
 have hn0 : (0 : Int) ≤ (n : Int) := by omega
 have hnI : (n : Int) ≤ 65536 := by omega
 go_wp2_with fail
 go_upto_region 2 with (fail)
 go_cut [8, 9] (fun s8 s9 wx => s8 = .int .i64 ((n : Int) + 1) ∧ ∃ bv : Nat, s9 = .pointer (some ⟨bv, 0, none⟩) ∧ w.heap.size < bv ∧ Hid (Blk wx bv 26 #[.int .i64 kv, .int .i64 nv, .string sv] ∧ Ext w1 wx))
 case first =>
  have hw21 : IntKind.i64.wrap ((2 : Int) - 1) = 1 := by decide
  have hw1 : IntKind.i64.wrap 1 = 1 := by decide
  go_region_held3 (fun w' => w'.cell? ⟨b, o + 3, none⟩ = some (.int .i64 kv) ∧ w'.cell? ⟨b, o + 3 + 1, none⟩ = some (.int .i64 nv) ∧ w'.cell? ⟨b, o + 3 + 2, none⟩ = some (.string sv)) (go_keep) (fail)
  all_goals go_wp2_with fail
  all_goals (
   go_meet
   first
    | exact ⟨rfl, _, rfl, hwW, Lib.hid ⟨Blk.new _ _ _, (Ext.refl w1).drew.alloc _⟩⟩
    | exact ⟨rfl, _, rfl, hwW, Lib.hid ⟨put3 (Blk.new _ _ _) _ _ _, (((((Ext.refl w1).drew.alloc _).setCell (Nat.le_refl _) _).setCell (Nat.le_refl _) _).setCell (Nat.le_refl _) _)⟩⟩)
 case rest =>
 obtain ⟨rfl, bv, rfl, hbv, HXX⟩ := hcut
 obtain ⟨wx, rfl⟩ : ∃ wx : World, wx = wc := ⟨_, rfl⟩
 have EX := Lib.hid (HW.out.trans HXX.out.2)
 have HU0 : Hid (RLpI w wx g tv H ⟨k0, n0, s0⟩ ⟨kv, nv, sv⟩ bv H) := Lib.hid ⟨HI0.out.ext EX.out, .of_ext EX.out, rfl, HOF.out, hbv, HXX.out.1, HB.out.ext HXX.out.2⟩
 obtain ⟨v0, v1, v2, g0, g1, g2⟩ := three HU0.out.box
 have hbl : bv < wx.heap.size := HU0.out.box.lt
 have hbv' : ¬ bv = w.heap.size := by omega
 have hbv2 : ¬ w.heap.size = bv := by omega
 clear HXX HB HW c0 c1 c2 d0 d1 d2 hbW hwW hne1 hne2
 have t1 : decide ((n : Int) + 1 < 1) = false := decide_eq_false (by omega)
 have t2 : decide ((n : Int) + 1 < (n : Int) + 1) = false := decide_eq_false (by omega)
 have t1' : decide ((n : Int) < 0) = false := decide_eq_false (by omega)
 by_cases hk0 : kv = 0
 ·have HV : Hid (r = Rs.no H sType) := Lib.hid (by
   rw [← HR.out]
   unfold insertR
   rw [HNN.out, if_neg (by omega), if_pos hk0])
  subst hk0
  obtain ⟨z0, z1, z2, y0, y1, y2⟩ := three HU0.out.res
  have hlt2 := HU0.out.res.lt
  go_wp2_with fail
  exact bodyPost_ret (v := .tuple #[Vl.zero.v, .string sType]) (by simp [results, Tryz.results123, go_sem, Vl.zero, sType, *]) rfl (by rw [HV.out]; exact HU0.out.done (r := Rs.no H sType) rfl rfl (by rw [if_neg (by show ¬ sType = sNone; decide)]) _ _ _)
 have hk1 : (kv == 0) = false := by rw [beq_eq_false_iff_ne]; exact hk0
 obtain ⟨x, hx⟩ : ∃ x, upP ⟨k0, n0, s0⟩ ((n : Int) + 1) ((n : Int) + 1 - ((n : Int) + 1)).toNat H = x := ⟨_, rfl⟩
 have HRR : Hid (r = if x.2 = sNone then ⟨Vl.zero, setW x.1 ⟨k0, n0, s0⟩ (iK ((n : Int) + 1)) ⟨kv, nv, sv⟩, setH x.1 ⟨k0, n0, s0⟩ (iK ((n : Int) + 1)) ⟨kv, nv, sv⟩⟩ else .no x.1 x.2) := Lib.hid (by
  rw [← HR.out]
  unfold insertR
  rw [HNN.out, if_neg (by omega), if_neg hk0]
  simp only [hx])
 have HX := Lib.hid hx
 clear hx hk0
 go_wp2_with fail
 go_loopw [10] (fun s10 wr => ∃ (i : Int) (k : Nat) (Hc : Hp), s10 = .int .i64 i ∧ Hid (i = ((n : Int) + 1) + k) ∧ ((n : Int) + 1) ≤ i ∧ i ≤ (n : Int) + 1 ∧ Hid (upP ⟨k0, n0, s0⟩ ((n : Int) + 1) k Hc = x) ∧ Hid (RLpI w wr g tv H ⟨k0, n0, s0⟩ ⟨kv, nv, sv⟩ bv Hc)) (fun s10 _ => (intOf s10 - ((n : Int) + 1)).toNat)
 case atStart => exact ⟨(n : Int) + 1, ((n : Int) + 1 - ((n : Int) + 1)).toNat, H, rfl, Lib.hid (by omega), by omega, by omega, HX, HU0⟩
 case round =>
  obtain ⟨i, k, Hc, rfl, hik, hi1, hi2, HSP, HUP⟩ := hrel
  clear HU0 v0 v1 v2 g0 g1 g2 hbl
  have hbr : b < wr.heap.size := Nat.lt_of_lt_of_le hb HUP.out.touch.size
  have hwr1 : w.heap.size < wr.heap.size := HUP.out.res.lt
  have aa := HA0.out.of (HUP.out.touch.block b hb nb)
  have c0 := aa.k
  have c1 := aa.n
  have c2 := aa.s
  simp only at c0 c1 c2
  clear aa
  by_cases hge : ((n : Int) + 1) < i
  ·have hd : decide (((n : Int) + 1) < i) = true := decide_eq_true hge
   obtain ⟨k, rfl⟩ : ∃ k', k = k' + 1 := ⟨k - 1, by have := hik.out; omega⟩
   have HIK : Hid (i - 1 = ((n : Int) + 1) + k) := Lib.hid (by have := hik.out; omega)
   have hG := Lib.hid (fun (Z : World) (hZ : RHeapIn Z g tv Hc) => rget_any g tv Hc ⟨k0, n0, s0⟩ (iK (i - 1)) Z hZ (by rw [HUP.out.len]; exact hlen))
   rw [getW_int HUP.out.of] at hG
   have hS := Lib.hid (fun (Z : World) (hZ : RHeapIn Z g tv Hc) => rset_any g tv Hc ⟨k0, n0, s0⟩ (iK i) (getV Hc ⟨k0, n0, s0⟩ (iK (i - 1))) Z hZ (by rw [HUP.out.len]; exact hlen) ⟨by show (-9223372036854775808 : Int) ≤ i; omega, by show i ≤ (9223372036854775807 : Int); omega⟩ (getV_ok HUP.out.heap.ok _ _).1)
   have HG := Lib.hid HUP.out.heap
   have HSP2 : Hid ((if setW Hc ⟨k0, n0, s0⟩ (iK i) (getV Hc ⟨k0, n0, s0⟩ (iK (i - 1))) = sNone then upP ⟨k0, n0, s0⟩ ((n : Int) + 1) k (setH Hc ⟨k0, n0, s0⟩ (iK i) (getV Hc ⟨k0, n0, s0⟩ (iK (i - 1)))) else (Hc, setW Hc ⟨k0, n0, s0⟩ (iK i) (getV Hc ⟨k0, n0, s0⟩ (iK (i - 1))))) = x) := Lib.hid (by
    have h9 := HSP.out
    have e9 : ((n : Int) + 1) + (k : Int) + 1 = i := by have := HIK.out; omega
    have e8 : ((n : Int) + 1) + (k : Int) = i - 1 := by have := HIK.out; omega
    unfold upP at h9
    rw [e9, e8] at h9
    exact h9)
   obtain ⟨qv, hqv⟩ : ∃ qv, getV Hc ⟨k0, n0, s0⟩ (iK (i - 1)) = qv := ⟨_, rfl⟩
   rw [hqv] at hG hS HSP2
   obtain ⟨qk, qn, qs⟩ := qv
   obtain ⟨st, hst⟩ : ∃ st, setW Hc ⟨k0, n0, s0⟩ (iK i) ⟨qk, qn, qs⟩ = st := ⟨_, rfl⟩
   rw [hst] at hS HSP2
   have HST := Lib.hid hst
   have hwr : IntKind.i64.wrap (i - 1) = i - 1 := IntWalk.i64_in _ (by omega)
   have hib : -9223372036854775808 ≤ i - 1 := by omega
   clear hqv hst hge hik HSP
   go_wp2_with fail
   go_upto_region 12 with (fail)
   go_cut [11] (fun s11 wx => ∃ bv : Nat, s11 = .pointer (some ⟨bv, 0, none⟩) ∧ (w.heap.size + 1) ≤ bv ∧ Hid (Blk wx bv 26 #[.int .i64 qk, .int .i64 qn, .string qs] ∧ Ext wr wx))
   case first =>
    have hlowW : (w.heap.size + 1) ≤ wr.heap.size := by omega
    have hnb : ¬ wr.heap.size = b := by omega
    have hnb2 : ¬ b = wr.heap.size := by omega
    have hbS : b < wr.heap.size := by omega
    go_region_held3 (fun w' => w'.cell? ⟨b, o, none⟩ = some (.int .i64 k0) ∧ w'.cell? ⟨b, o + 1, none⟩ = some (.int .i64 n0) ∧ w'.cell? ⟨b, o + 2, none⟩ = some (.string s0)) (go_keep)
     (first
      | (go_at_call 116; refine (rnumber_any _ _).mono ?_; rintro e w3 ⟨rfl, e3⟩; have E3 := Lib.hid (show Ext wr w3 from Ext.trans (by repeat (first | exact Ext.refl _ | refine Ext.drew ?_ | refine Ext.alloc ?_ _)) e3); have x0 := (E3.out.cells.1 _ _ hbS).trans c0; have x1 := (E3.out.cells.1 _ _ hbS).trans c1; have x2 := (E3.out.cells.1 _ _ hbS).trans c2; have L3 : b < w3.heap.size := Nat.lt_of_lt_of_le hbS E3.out.le; have nn3 : ¬ w3.heap.size = b := Nat.ne_of_gt L3; have nm3 : ¬ b = w3.heap.size := Nat.ne_of_lt L3; (try (have hq : Ext (World.alloc wr.drew (.cells #[.int .i64 0, .int .i64 0, .string ⟨#[]⟩] 26)) w3 := (by with_reducible exact e3); have ZA := Lib.hid (ZV.new wr.heap.size rfl hq); clear hq)); (try (have hq : Ext (World.drew (World.alloc wr (.cells #[.int .i64 0, .int .i64 0, .string ⟨#[]⟩] 26))) w3 := (by with_reducible exact e3); have ZA := Lib.hid (ZV.newd wr.heap.size rfl hq); clear hq)); clear e3)
      | (go_at_call 89; refine (hG.out _ (by repeat (first | exact HG.out.ext E3.out | refine RHeapIn.ext ?_ (Ext.alloc (Ext.refl _) _)))).mono ?_; rintro e w5 ⟨rfl, e5⟩; have E5 := Lib.hid (show Ext wr w5 from Ext.trans (by repeat (first | exact E3.out | refine Ext.alloc ?_ _)) e5); have v0 := (E5.out.cells.1 _ _ hbS).trans c0; have v1 := (E5.out.cells.1 _ _ hbS).trans c1; have v2 := (E5.out.cells.1 _ _ hbS).trans c2; have L5 : b < w5.heap.size := Nat.lt_of_lt_of_le hbS E5.out.le; have nn5 : ¬ w5.heap.size = b := Nat.ne_of_gt L5; have nm5 : ¬ b = w5.heap.size := Nat.ne_of_lt L5; (try (have hz : Hid (ZV w3 wr.heap.size) := (by with_reducible assumption); have ZZ := Lib.hid (hz.out.ext e5); obtain ⟨zl, zv0, zv1, zv2, zf0, zf1, zf2⟩ := ZZ.out.facts; clear hz)); (try (have hq : Ext (World.alloc w3 (.cells #[.int .i64 0, .int .i64 0, .string ⟨#[]⟩] 26)) w5 := (by with_reducible exact e5); have ZZ := Lib.hid (ZV.new w3.heap.size rfl hq); obtain ⟨zl, zv0, zv1, zv2, zf0, zf1, zf2⟩ := ZZ.out.facts; clear hq)); clear e5))
    all_goals go_wp2_with fail
    all_goals (
     go_meet
     first
      | exact ⟨_, rfl, hlowW, Lib.hid ⟨put3 ZZ.out _ _ _, ((E5.out.setCell (Nat.le_refl _) _).setCell (Nat.le_refl _) _).setCell (Nat.le_refl _) _⟩⟩
      | exact ⟨_, rfl, Nat.le_trans hlowW E3.out.le, Lib.hid ⟨put3 ZZ.out _ _ _, ((E5.out.setCell E3.out.le _).setCell E3.out.le _).setCell E3.out.le _⟩⟩
      | exact ⟨_, rfl, Nat.le_trans hlowW E5.out.le, Lib.hid ⟨Blk.new _ _ _, E5.out.alloc _⟩⟩)
   case rest =>
   obtain ⟨bx, rfl, hbx, HYY⟩ := hcut
   obtain ⟨wy, rfl⟩ : ∃ wy : World, wy = wc := ⟨_, rfl⟩
   have HUY := Lib.hid (HUP.out.ext HYY.out.2)
   obtain ⟨f0, f1, f2, _⟩ := three HYY.out.1
   have hbxl : bx < wy.heap.size := HYY.out.1.lt
   have hby : b < wy.heap.size := Nat.lt_of_lt_of_le hbr HYY.out.2.le
   replace c0 := (HYY.out.2.cells.1 b o hbr).trans c0
   replace c1 := (HYY.out.2.cells.1 b (o + 1) hbr).trans c1
   replace c2 := (HYY.out.2.cells.1 b (o + 2) hbr).trans c2
   have nbx : ¬ RFoot g tv bx := HNF.out bx (by omega)
   have hwy1 : w.heap.size < wy.heap.size := HUY.out.res.lt
   clear HYY HUP HG hG hwr1 hbr
   go_wp2_with fail
   go_upto_region 13 with (fail)
   go_cut [13] (fun s13 wx => s13 = .string st ∧ Hid (RLpI w wx g tv H ⟨k0, n0, s0⟩ ⟨kv, nv, sv⟩ bv (setH Hc ⟨k0, n0, s0⟩ (iK i) ⟨qk, qn, qs⟩)))
   case first =>
    have hbS0 : b < wy.heap.size := hby
    have hbS1 : bx < wy.heap.size := hbxl
    go_region_held3 (fun w' => w'.cell? ⟨b, o, none⟩ = some (.int .i64 k0) ∧ w'.cell? ⟨b, o + 1, none⟩ = some (.int .i64 n0) ∧ w'.cell? ⟨b, o + 2, none⟩ = some (.string s0) ∧ w'.cell? ⟨bx, 0, none⟩ = some (.int .i64 qk) ∧ w'.cell? ⟨bx, 1, none⟩ = some (.int .i64 qn) ∧ w'.cell? ⟨bx, 2, none⟩ = some (.string qs)) (go_keep)
     (first
      | (go_at_call 116; refine (rnumber_any _ _).mono ?_; rintro e w3 ⟨rfl, e3⟩; have E3 := Lib.hid (show Ext wy w3 from (Ext.refl wy).drew.trans e3); have x00 := (E3.out.cells.1 _ _ hbS0).trans c0; have x01 := (E3.out.cells.1 _ _ hbS0).trans c1; have x02 := (E3.out.cells.1 _ _ hbS0).trans c2; have x10 := (E3.out.cells.1 _ _ hbS1).trans f0; have x11 := (E3.out.cells.1 _ _ hbS1).trans f1; have x12 := (E3.out.cells.1 _ _ hbS1).trans f2; clear e3)
      | (go_at_call 84; refine (hS.out _ (HUY.out.heap.ext E3.out)).mono ?_; rintro e w6 ⟨rfl, hh6, ht6⟩; have U6 := Lib.hid (HUY.out.set HNF.out E3.out hh6 ht6); have y00 := (ht6.cells.1 b _ (Nat.lt_of_lt_of_le hbS0 E3.out.le) nb).trans x00; have y01 := (ht6.cells.1 b _ (Nat.lt_of_lt_of_le hbS0 E3.out.le) nb).trans x01; have y02 := (ht6.cells.1 b _ (Nat.lt_of_lt_of_le hbS0 E3.out.le) nb).trans x02; have y10 := (ht6.cells.1 bx _ (Nat.lt_of_lt_of_le hbS1 E3.out.le) nbx).trans x10; have y11 := (ht6.cells.1 bx _ (Nat.lt_of_lt_of_le hbS1 E3.out.le) nbx).trans x11; have y12 := (ht6.cells.1 bx _ (Nat.lt_of_lt_of_le hbS1 E3.out.le) nbx).trans x12; clear hh6 ht6))
    all_goals go_wp2_with fail
    all_goals (
     go_meet
     first
      | exact ⟨rfl, U6⟩
      | exact ⟨rfl, Lib.hid (by rw [zset U6.out.res]; exact U6.out)⟩)
   case rest =>
   obtain ⟨rfl, HUZ⟩ := hcut
   obtain ⟨wz, rfl⟩ : ∃ wz : World, wz = wc := ⟨_, rfl⟩
   clear HUY c0 c1 c2 f0 f1 f2 hbxl hby hS hwy1
   by_cases hs : st = sNone
   ·have HSP3 : Hid (upP ⟨k0, n0, s0⟩ ((n : Int) + 1) k (setH Hc ⟨k0, n0, s0⟩ (iK i) ⟨qk, qn, qs⟩) = x) := Lib.hid (by have := HSP2.out; rw [if_pos hs] at this; exact this)
    subst hs
    clear HSP2 HST
    go_wp2_with fail
    go_roundw
    case rel => exact ⟨i - 1, k, _, rfl, HIK, by have := HIK.out; omega, by have := HIK.out; omega, HSP3, HUZ⟩
    case measure => have := HIK.out; simp [intOf]; omega
   ·have hst1 := str_ne_empty hs
    have HV : Hid (r = .no Hc st) := Lib.hid (by
     have := HSP2.out
     rw [if_neg hs] at this
     rw [HRR.out, ← this, if_neg hs])
    have HNS := Lib.hid hs
    have hHc : setH Hc ⟨k0, n0, s0⟩ (iK i) ⟨qk, qn, qs⟩ = Hc := setH_no (by rw [HST.out]; exact hs)
    rw [hHc] at HUZ
    obtain ⟨z0, z1, z2, y0, y1, y2⟩ := three HUZ.out.res
    have hlt2 := HUZ.out.res.lt
    clear HSP2 HST hs hHc
    go_wp2_with fail
    exact bodyPost_ret (v := .tuple #[Vl.zero.v, .string st]) (by simp [results, Tryz.results123, go_sem, Vl.zero, *]) rfl (by rw [HV.out]; exact HUZ.out.done (r := Rs.no Hc st) rfl rfl (by rw [if_neg (show ¬ (Rs.no Hc st).w = sNone from HNS.out)]) _ _ _)
  ·have hd : decide (((n : Int) + 1) < i) = false := decide_eq_false hge
   obtain rfl : ((n : Int) + 1) = i := by omega
   obtain rfl : k = 0 := by have := hik.out; omega
   have hxx : x = (Hc, sNone) := HSP.out.symm
   have HV : Hid (r = ⟨Vl.zero, setW Hc ⟨k0, n0, s0⟩ (iK ((n : Int) + 1)) ⟨kv, nv, sv⟩, setH Hc ⟨k0, n0, s0⟩ (iK ((n : Int) + 1)) ⟨kv, nv, sv⟩⟩) := Lib.hid (by rw [HRR.out, hxx, if_pos rfl])
   have hS := Lib.hid (fun (Z : World) (hZ : RHeapIn Z g tv Hc) => rset_any g tv Hc ⟨k0, n0, s0⟩ (iK ((n : Int) + 1)) ⟨kv, nv, sv⟩ Z hZ (by rw [HUP.out.len]; exact hlen) ⟨by show (-9223372036854775808 : Int) ≤ ((n : Int) + 1); omega, by show ((n : Int) + 1) ≤ (9223372036854775807 : Int); omega⟩ HVN.out)
   obtain ⟨st, hst⟩ : ∃ st, setW Hc ⟨k0, n0, s0⟩ (iK ((n : Int) + 1)) ⟨kv, nv, sv⟩ = st := ⟨_, rfl⟩
   rw [hst] at hS HV
   obtain ⟨f0, f1, f2, _⟩ := three HUP.out.box
   have hbvl : bv < wr.heap.size := HUP.out.box.lt
   have nbv : ¬ RFoot g tv bv := HNF.out bv (by omega)
   have hbw1 : ¬ b = w.heap.size := by omega
   have hbw2 : ¬ w.heap.size = b := by omega
   obtain ⟨wz0, wz1, wz2, wy0, wy1, wy2⟩ := three HUP.out.res
   have hrl : w.heap.size < wr.heap.size := HUP.out.res.lt
   clear hxx hge hik hst HSP HRR
   go_wp2_with fail
   go_upto_region 16 with (fail)
   go_cut [5] (fun s5 wx => s5 = .string st ∧ Hid (RLpI w wx g tv H ⟨k0, n0, s0⟩ ⟨kv, nv, sv⟩ bv (setH Hc ⟨k0, n0, s0⟩ (iK ((n : Int) + 1)) ⟨kv, nv, sv⟩)))
   case first =>
    have hbS0 : b < wr.heap.size := hbr
    have hbS1 : bv < wr.heap.size := hbvl
    go_region_held3 (fun w' => w'.cell? ⟨b, o, none⟩ = some (.int .i64 k0) ∧ w'.cell? ⟨b, o + 1, none⟩ = some (.int .i64 n0) ∧ w'.cell? ⟨b, o + 2, none⟩ = some (.string s0) ∧ w'.cell? ⟨bv, 0, none⟩ = some (.int .i64 kv) ∧ w'.cell? ⟨bv, 1, none⟩ = some (.int .i64 nv) ∧ w'.cell? ⟨bv, 2, none⟩ = some (.string sv)) (go_keep)
     (first
      | (go_at_call 116; refine (rnumber_any _ _).mono ?_; rintro e w3 ⟨rfl, e3⟩; (try rw [zset (show Blk (World.drew wr) _ _ _ from HUP.out.res)] at e3); have E3 := Lib.hid (show Ext wr w3 from (Ext.refl wr).drew.trans e3); have x00 := (E3.out.cells.1 _ _ hbS0).trans c0; have x01 := (E3.out.cells.1 _ _ hbS0).trans c1; have x02 := (E3.out.cells.1 _ _ hbS0).trans c2; have x10 := (E3.out.cells.1 _ _ hbS1).trans f0; have x11 := (E3.out.cells.1 _ _ hbS1).trans f1; have x12 := (E3.out.cells.1 _ _ hbS1).trans f2; have RB3 := Lib.hid (HUP.out.res.ext E3.out); obtain ⟨rz0, rz1, rz2, ry0, ry1, ry2⟩ := three RB3.out; have rzl := RB3.out.lt; clear e3)
      | (go_at_call 84; (try rw [zset RB3.out]); refine (hS.out _ (HUP.out.heap.ext E3.out)).mono ?_; rintro e w6 ⟨rfl, hh6, ht6⟩; have U6 := Lib.hid (HUP.out.set HNF.out E3.out hh6 ht6); have y00 := (ht6.cells.1 b _ (Nat.lt_of_lt_of_le hbS0 E3.out.le) nb).trans x00; have y01 := (ht6.cells.1 b _ (Nat.lt_of_lt_of_le hbS0 E3.out.le) nb).trans x01; have y02 := (ht6.cells.1 b _ (Nat.lt_of_lt_of_le hbS0 E3.out.le) nb).trans x02; have y10 := (ht6.cells.1 bv _ (Nat.lt_of_lt_of_le hbS1 E3.out.le) nbv).trans x10; have y11 := (ht6.cells.1 bv _ (Nat.lt_of_lt_of_le hbS1 E3.out.le) nbv).trans x11; have y12 := (ht6.cells.1 bv _ (Nat.lt_of_lt_of_le hbS1 E3.out.le) nbv).trans x12; obtain ⟨qz0, qz1, qz2, qy0, qy1, qy2⟩ := three U6.out.res; have qzl := U6.out.res.lt; clear hh6 ht6))
    all_goals go_wp2_with fail
    all_goals (
     go_meet
     first
      | exact ⟨rfl, U6⟩
      | exact ⟨rfl, Lib.hid (by rw [zset U6.out.res]; exact U6.out)⟩)
   case rest =>
   obtain ⟨rfl, HUZ⟩ := hcut
   obtain ⟨wz, rfl⟩ : ∃ wz : World, wz = wc := ⟨_, rfl⟩
   clear HUP c0 c1 c2 f0 f1 f2 hbvl hS wz0 wz1 wz2 wy0 wy1 wy2 hrl
   obtain ⟨z0, z1, z2, y0, y1, y2⟩ := three HUZ.out.res
   have hlt2 := HUZ.out.res.lt
   go_wp2_with fail
   exact bodyPost_ret (v := .tuple #[Vl.zero.v, .string st]) (by simp [results, Tryz.results123, go_sem, Vl.zero, *]) rfl (by rw [HV.out]; exact HUZ.out.done' (r := ⟨Vl.zero, st, setH Hc ⟨k0, n0, s0⟩ (iK ((n : Int) + 1)) ⟨kv, nv, sv⟩⟩) rfl rfl (by show Vl.zero = if st = sNone then Vl.zero else Vl.zero; split <;> rfl))
set_option maxRecDepth 100000 in
set_option maxHeartbeats 8000000 in
theorem rinsert3 (g : Nat) (tv : Value) (H : Hp) (w : World) (h : RHeapIn w g tv H) (hlen : H.tabs.length ≤ 9223372036854775807) (b o cap : Nat) (x0 x1 x2 : Vl) (hof : ofW H x0 = sNone) (hv : in64 x2.n) (a0 : ArgAt w b o x0) (a1 : ArgAt w b (o + 3) x1) (hp : in64 x1.n) (a2 : ArgAt w b (o + 6) x2) (nb : ¬ RFoot g tv b) :
  Calls Tryz.prog 123 #[.pointer (some ⟨g, 0, none⟩), .slice (some ⟨b, o, none⟩) 3 cap] w (RdE w g tv (insertR H x0 x1.n x2)) := by
 have HI0 := Lib.hid h
 have hT := tabOf_ok h.ok (ofW_none hof).2.2.2.2
 have hl0 := (lenV_tab hof).1
 have hmost := Nat.le_trans (tlen_le hT) hT.most
 obtain ⟨n, hn⟩ : ∃ n : Nat, lenV H x0 = (n : Int) := ⟨_, hl0⟩
 have hn2 : n ≤ 65536 := by omega
 have HB := Lib.hid (Blk.new w 26 #[.int .i64 0, .int .i64 0, .string ⟨#[]⟩])
 have HW := Lib.hid ((Ext.refl w).alloc (.cells #[.int .i64 0, .int .i64 0, .string ⟨#[]⟩] 26))
 have HNF : Hid (∀ x, w.heap.size ≤ x → ¬ RFoot g tv x) := Lib.hid (fun x hx hf => by have := HI0.out.low hf; omega)
 have hw2 := (lenV_tab hof).2
 have cL := Lib.hid (fun (W : World) (hW : RHeapIn W g tv H) => rlen_any g tv H x0 W hW hlen)
 rw [hn, hw2] at cL
 obtain ⟨r, hr⟩ : ∃ r, insertR H x0 x1.n x2 = r := ⟨_, rfl⟩
 rw [hr]
 have HR := Lib.hid hr
 obtain ⟨k0, n0, s0⟩ := x0
 obtain ⟨k1, p, s1⟩ := x1
 obtain ⟨kv, nv, sv⟩ := x2
 have c0 := (a0.ext HW.out).k
 have c1 := (a0.ext HW.out).n
 have c2 := (a0.ext HW.out).s
 have e1 := (a1.ext HW.out).n
 obtain ⟨hp1, hp2⟩ := hp
 have d0 := (a2.ext HW.out).k
 have d1 := (a2.ext HW.out).n
 have d2 := (a2.ext HW.out).s
 simp only at c0 c1 c2 d0 d1 d2 hv e1 hp1 hp2
 have hb := a0.lt
 have HA0 := Lib.hid a0
 have HNN := Lib.hid hn
 have HOF := Lib.hid hof
 have HVN := Lib.hid hv
 have hq : sNone.toList = [] := sNone_list
 clear hn hl0 hT hmost hr h a0 a2 hof hw2 hv a1
 go_enter Tryz.func123, Tryz.ntmps123
 go_wp2_with fail
 refine (cL.out _ (HI0.out.ext HW.out)).mono ?_
 rintro e w1 ⟨rfl, e1x⟩
 have hbW0 : b < (w.alloc (.cells #[.int .i64 0, .int .i64 0, .string ⟨#[]⟩] 26)).heap.size := Nat.lt_of_lt_of_le hb HW.out.le
 replace c0 := (e1x.cells.1 b o hbW0).trans c0
 replace c1 := (e1x.cells.1 b (o + 1) hbW0).trans c1
 replace c2 := (e1x.cells.1 b (o + 2) hbW0).trans c2
 replace e1 := (e1x.cells.1 b (o + 3 + 1) hbW0).trans e1
 replace d0 := (e1x.cells.1 b (o + 6) hbW0).trans d0
 replace d1 := (e1x.cells.1 b (o + 6 + 1) hbW0).trans d1
 replace d2 := (e1x.cells.1 b (o + 6 + 2) hbW0).trans d2
 replace HB := Lib.hid (HB.out.ext e1x)
 replace HW := Lib.hid (HW.out.trans e1x)
 clear e1x cL hbW0
 have hbW : b < w1.heap.size := Nat.lt_of_lt_of_le hb HW.out.le
 have hwW : w.heap.size < w1.heap.size := HB.out.lt
 have hne1 : ¬ w1.heap.size = b := by omega
 have hne2 : ¬ b = w1.heap.size := by omega
 have hwn : IntKind.i64.wrap ((n : Int) + 1) = (n : Int) + 1 := IntWalk.i64_in _ (by omega)
 have hn0 : (0 : Int) ≤ (n : Int) := by omega
 have hnI : (n : Int) ≤ 65536 := by omega
 go_wp2_with fail
 go_upto_region 2 with (fail)
 go_cut [8, 9] (fun s8 s9 wx => s8 = .int .i64 ((n : Int) + 1) ∧ ∃ bv : Nat, s9 = .pointer (some ⟨bv, 0, none⟩) ∧ w.heap.size < bv ∧ Hid (Blk wx bv 26 #[.int .i64 kv, .int .i64 nv, .string sv] ∧ Ext w1 wx))
 case first =>
  have hw21 : IntKind.i64.wrap ((3 : Int) - 1) = 2 := by decide
  have hw1 : IntKind.i64.wrap 2 = 2 := by decide
  go_region_held3 (fun w' => w'.cell? ⟨b, o + 6, none⟩ = some (.int .i64 kv) ∧ w'.cell? ⟨b, o + 6 + 1, none⟩ = some (.int .i64 nv) ∧ w'.cell? ⟨b, o + 6 + 2, none⟩ = some (.string sv)) (go_keep) (fail)
  all_goals go_wp2_with fail
  all_goals (
   go_meet
   first
    | exact ⟨rfl, _, rfl, hwW, Lib.hid ⟨Blk.new _ _ _, (Ext.refl w1).drew.alloc _⟩⟩
    | exact ⟨rfl, _, rfl, hwW, Lib.hid ⟨put3 (Blk.new _ _ _) _ _ _, (((((Ext.refl w1).drew.alloc _).setCell (Nat.le_refl _) _).setCell (Nat.le_refl _) _).setCell (Nat.le_refl _) _)⟩⟩)
 case rest =>
 obtain ⟨rfl, bv, rfl, hbv, HXX⟩ := hcut
 obtain ⟨wx, rfl⟩ : ∃ wx : World, wx = wc := ⟨_, rfl⟩
 have EX := Lib.hid (HW.out.trans HXX.out.2)
 have HU0 : Hid (RLpI w wx g tv H ⟨k0, n0, s0⟩ ⟨kv, nv, sv⟩ bv H) := Lib.hid ⟨HI0.out.ext EX.out, .of_ext EX.out, rfl, HOF.out, hbv, HXX.out.1, HB.out.ext HXX.out.2⟩
 replace e1 := (HXX.out.2.cells.1 b (o + 3 + 1) hbW).trans e1
 have hbx : b < wx.heap.size := Nat.lt_of_lt_of_le hbW HXX.out.2.le
 obtain ⟨v0, v1, v2, g0, g1, g2⟩ := three HU0.out.box
 have hbl : bv < wx.heap.size := HU0.out.box.lt
 have hbv' : ¬ bv = w.heap.size := by omega
 have hbv2 : ¬ w.heap.size = bv := by omega
 clear HXX HB HW c0 c1 c2 d0 d1 d2 hbW hwW hne1 hne2
 by_cases hrn : ¬ (1 ≤ p ∧ p ≤ (n : Int) + 1)
 ·have HV : Hid (r = Rs.no H sRange) := Lib.hid (by
   rw [← HR.out]
   unfold insertR
   rw [HNN.out, if_pos (by omega)])
  have tt : decide (p < 1) = true ∨ (decide (p < 1) = false ∧ decide ((n : Int) + 1 < p) = true) := by
   simp only [decide_eq_true_eq, decide_eq_false_iff_not]; omega
  clear hrn
  rcases tt with t1 | ⟨t1, t2⟩
  all_goals (
   obtain ⟨z0, z1, z2, y0, y1, y2⟩ := three HU0.out.res
   have hlt2 := HU0.out.res.lt
   go_wp2_with fail
   exact bodyPost_ret (v := .tuple #[Vl.zero.v, .string sRange]) (by simp [results, Tryz.results123, go_sem, Vl.zero, sRange, *]) rfl (by rw [HV.out]; exact HU0.out.done (r := Rs.no H sRange) rfl rfl (by rw [if_neg (by show ¬ sRange = sNone; decide)]) _ _ _))
 obtain ⟨hr1, hr2⟩ := Classical.not_not.1 hrn
 clear hrn
 have t1 : decide (p < 1) = false := decide_eq_false (by omega)
 have t2 : decide ((n : Int) + 1 < p) = false := decide_eq_false (by omega)
 by_cases hk0 : kv = 0
 ·have HV : Hid (r = Rs.no H sType) := Lib.hid (by
   rw [← HR.out]
   unfold insertR
   rw [HNN.out, if_neg (by omega), if_pos hk0])
  subst hk0
  obtain ⟨z0, z1, z2, y0, y1, y2⟩ := three HU0.out.res
  have hlt2 := HU0.out.res.lt
  go_wp2_with fail
  exact bodyPost_ret (v := .tuple #[Vl.zero.v, .string sType]) (by simp [results, Tryz.results123, go_sem, Vl.zero, sType, *]) rfl (by rw [HV.out]; exact HU0.out.done (r := Rs.no H sType) rfl rfl (by rw [if_neg (by show ¬ sType = sNone; decide)]) _ _ _)
 have hk1 : (kv == 0) = false := by rw [beq_eq_false_iff_ne]; exact hk0
 obtain ⟨x, hx⟩ : ∃ x, upP ⟨k0, n0, s0⟩ p ((n : Int) + 1 - p).toNat H = x := ⟨_, rfl⟩
 have HRR : Hid (r = if x.2 = sNone then ⟨Vl.zero, setW x.1 ⟨k0, n0, s0⟩ (iK p) ⟨kv, nv, sv⟩, setH x.1 ⟨k0, n0, s0⟩ (iK p) ⟨kv, nv, sv⟩⟩ else .no x.1 x.2) := Lib.hid (by
  rw [← HR.out]
  unfold insertR
  rw [HNN.out, if_neg (by omega), if_neg hk0]
  simp only [hx])
 have HX := Lib.hid hx
 clear hx hk0
 go_wp2_with fail
 go_loopw [10] (fun s10 wr => ∃ (i : Int) (k : Nat) (Hc : Hp), s10 = .int .i64 i ∧ Hid (i = p + k) ∧ p ≤ i ∧ i ≤ (n : Int) + 1 ∧ Hid (upP ⟨k0, n0, s0⟩ p k Hc = x) ∧ Hid (RLpI w wr g tv H ⟨k0, n0, s0⟩ ⟨kv, nv, sv⟩ bv Hc)) (fun s10 _ => (intOf s10 - p).toNat)
 case atStart => exact ⟨(n : Int) + 1, ((n : Int) + 1 - p).toNat, H, rfl, Lib.hid (by omega), by omega, by omega, HX, HU0⟩
 case round =>
  obtain ⟨i, k, Hc, rfl, hik, hi1, hi2, HSP, HUP⟩ := hrel
  clear HU0 v0 v1 v2 g0 g1 g2 hbl e1 hbx
  have hbr : b < wr.heap.size := Nat.lt_of_lt_of_le hb HUP.out.touch.size
  have hwr1 : w.heap.size < wr.heap.size := HUP.out.res.lt
  have aa := HA0.out.of (HUP.out.touch.block b hb nb)
  have c0 := aa.k
  have c1 := aa.n
  have c2 := aa.s
  simp only at c0 c1 c2
  clear aa
  by_cases hge : p < i
  ·have hd : decide (p < i) = true := decide_eq_true hge
   obtain ⟨k, rfl⟩ : ∃ k', k = k' + 1 := ⟨k - 1, by have := hik.out; omega⟩
   have HIK : Hid (i - 1 = p + k) := Lib.hid (by have := hik.out; omega)
   have hG := Lib.hid (fun (Z : World) (hZ : RHeapIn Z g tv Hc) => rget_any g tv Hc ⟨k0, n0, s0⟩ (iK (i - 1)) Z hZ (by rw [HUP.out.len]; exact hlen))
   rw [getW_int HUP.out.of] at hG
   have hS := Lib.hid (fun (Z : World) (hZ : RHeapIn Z g tv Hc) => rset_any g tv Hc ⟨k0, n0, s0⟩ (iK i) (getV Hc ⟨k0, n0, s0⟩ (iK (i - 1))) Z hZ (by rw [HUP.out.len]; exact hlen) ⟨by show (-9223372036854775808 : Int) ≤ i; omega, by show i ≤ (9223372036854775807 : Int); omega⟩ (getV_ok HUP.out.heap.ok _ _).1)
   have HG := Lib.hid HUP.out.heap
   have HSP2 : Hid ((if setW Hc ⟨k0, n0, s0⟩ (iK i) (getV Hc ⟨k0, n0, s0⟩ (iK (i - 1))) = sNone then upP ⟨k0, n0, s0⟩ p k (setH Hc ⟨k0, n0, s0⟩ (iK i) (getV Hc ⟨k0, n0, s0⟩ (iK (i - 1)))) else (Hc, setW Hc ⟨k0, n0, s0⟩ (iK i) (getV Hc ⟨k0, n0, s0⟩ (iK (i - 1))))) = x) := Lib.hid (by
    have h9 := HSP.out
    have e9 : p + (k : Int) + 1 = i := by have := HIK.out; omega
    have e8 : p + (k : Int) = i - 1 := by have := HIK.out; omega
    unfold upP at h9
    rw [e9, e8] at h9
    exact h9)
   obtain ⟨qv, hqv⟩ : ∃ qv, getV Hc ⟨k0, n0, s0⟩ (iK (i - 1)) = qv := ⟨_, rfl⟩
   rw [hqv] at hG hS HSP2
   obtain ⟨qk, qn, qs⟩ := qv
   obtain ⟨st, hst⟩ : ∃ st, setW Hc ⟨k0, n0, s0⟩ (iK i) ⟨qk, qn, qs⟩ = st := ⟨_, rfl⟩
   rw [hst] at hS HSP2
   have HST := Lib.hid hst
   have hwr : IntKind.i64.wrap (i - 1) = i - 1 := IntWalk.i64_in _ (by omega)
   have hib : -9223372036854775808 ≤ i - 1 := by omega
   clear hqv hst hge hik HSP
   go_wp2_with fail
   go_upto_region 12 with (fail)
   go_cut [11] (fun s11 wx => ∃ bv : Nat, s11 = .pointer (some ⟨bv, 0, none⟩) ∧ (w.heap.size + 1) ≤ bv ∧ Hid (Blk wx bv 26 #[.int .i64 qk, .int .i64 qn, .string qs] ∧ Ext wr wx))
   case first =>
    have hlowW : (w.heap.size + 1) ≤ wr.heap.size := by omega
    have hnb : ¬ wr.heap.size = b := by omega
    have hnb2 : ¬ b = wr.heap.size := by omega
    have hbS : b < wr.heap.size := by omega
    go_region_held3 (fun w' => w'.cell? ⟨b, o, none⟩ = some (.int .i64 k0) ∧ w'.cell? ⟨b, o + 1, none⟩ = some (.int .i64 n0) ∧ w'.cell? ⟨b, o + 2, none⟩ = some (.string s0)) (go_keep)
     (first
      | (go_at_call 116; refine (rnumber_any _ _).mono ?_; rintro e w3 ⟨rfl, e3⟩; have E3 := Lib.hid (show Ext wr w3 from Ext.trans (by repeat (first | exact Ext.refl _ | refine Ext.drew ?_ | refine Ext.alloc ?_ _)) e3); have x0 := (E3.out.cells.1 _ _ hbS).trans c0; have x1 := (E3.out.cells.1 _ _ hbS).trans c1; have x2 := (E3.out.cells.1 _ _ hbS).trans c2; have L3 : b < w3.heap.size := Nat.lt_of_lt_of_le hbS E3.out.le; have nn3 : ¬ w3.heap.size = b := Nat.ne_of_gt L3; have nm3 : ¬ b = w3.heap.size := Nat.ne_of_lt L3; (try (have hq : Ext (World.alloc wr.drew (.cells #[.int .i64 0, .int .i64 0, .string ⟨#[]⟩] 26)) w3 := (by with_reducible exact e3); have ZA := Lib.hid (ZV.new wr.heap.size rfl hq); clear hq)); (try (have hq : Ext (World.drew (World.alloc wr (.cells #[.int .i64 0, .int .i64 0, .string ⟨#[]⟩] 26))) w3 := (by with_reducible exact e3); have ZA := Lib.hid (ZV.newd wr.heap.size rfl hq); clear hq)); clear e3)
      | (go_at_call 89; refine (hG.out _ (by repeat (first | exact HG.out.ext E3.out | refine RHeapIn.ext ?_ (Ext.alloc (Ext.refl _) _)))).mono ?_; rintro e w5 ⟨rfl, e5⟩; have E5 := Lib.hid (show Ext wr w5 from Ext.trans (by repeat (first | exact E3.out | refine Ext.alloc ?_ _)) e5); have v0 := (E5.out.cells.1 _ _ hbS).trans c0; have v1 := (E5.out.cells.1 _ _ hbS).trans c1; have v2 := (E5.out.cells.1 _ _ hbS).trans c2; have L5 : b < w5.heap.size := Nat.lt_of_lt_of_le hbS E5.out.le; have nn5 : ¬ w5.heap.size = b := Nat.ne_of_gt L5; have nm5 : ¬ b = w5.heap.size := Nat.ne_of_lt L5; (try (have hz : Hid (ZV w3 wr.heap.size) := (by with_reducible assumption); have ZZ := Lib.hid (hz.out.ext e5); obtain ⟨zl, zv0, zv1, zv2, zf0, zf1, zf2⟩ := ZZ.out.facts; clear hz)); (try (have hq : Ext (World.alloc w3 (.cells #[.int .i64 0, .int .i64 0, .string ⟨#[]⟩] 26)) w5 := (by with_reducible exact e5); have ZZ := Lib.hid (ZV.new w3.heap.size rfl hq); obtain ⟨zl, zv0, zv1, zv2, zf0, zf1, zf2⟩ := ZZ.out.facts; clear hq)); clear e5))
    all_goals go_wp2_with fail
    all_goals (
     go_meet
     first
      | exact ⟨_, rfl, hlowW, Lib.hid ⟨put3 ZZ.out _ _ _, ((E5.out.setCell (Nat.le_refl _) _).setCell (Nat.le_refl _) _).setCell (Nat.le_refl _) _⟩⟩
      | exact ⟨_, rfl, Nat.le_trans hlowW E3.out.le, Lib.hid ⟨put3 ZZ.out _ _ _, ((E5.out.setCell E3.out.le _).setCell E3.out.le _).setCell E3.out.le _⟩⟩
      | exact ⟨_, rfl, Nat.le_trans hlowW E5.out.le, Lib.hid ⟨Blk.new _ _ _, E5.out.alloc _⟩⟩)
   case rest =>
   obtain ⟨bx, rfl, hbx, HYY⟩ := hcut
   obtain ⟨wy, rfl⟩ : ∃ wy : World, wy = wc := ⟨_, rfl⟩
   have HUY := Lib.hid (HUP.out.ext HYY.out.2)
   obtain ⟨f0, f1, f2, _⟩ := three HYY.out.1
   have hbxl : bx < wy.heap.size := HYY.out.1.lt
   have hby : b < wy.heap.size := Nat.lt_of_lt_of_le hbr HYY.out.2.le
   replace c0 := (HYY.out.2.cells.1 b o hbr).trans c0
   replace c1 := (HYY.out.2.cells.1 b (o + 1) hbr).trans c1
   replace c2 := (HYY.out.2.cells.1 b (o + 2) hbr).trans c2
   have nbx : ¬ RFoot g tv bx := HNF.out bx (by omega)
   have hwy1 : w.heap.size < wy.heap.size := HUY.out.res.lt
   clear HYY HUP HG hG hwr1 hbr
   go_wp2_with fail
   go_upto_region 13 with (fail)
   go_cut [13] (fun s13 wx => s13 = .string st ∧ Hid (RLpI w wx g tv H ⟨k0, n0, s0⟩ ⟨kv, nv, sv⟩ bv (setH Hc ⟨k0, n0, s0⟩ (iK i) ⟨qk, qn, qs⟩)))
   case first =>
    have hbS0 : b < wy.heap.size := hby
    have hbS1 : bx < wy.heap.size := hbxl
    go_region_held3 (fun w' => w'.cell? ⟨b, o, none⟩ = some (.int .i64 k0) ∧ w'.cell? ⟨b, o + 1, none⟩ = some (.int .i64 n0) ∧ w'.cell? ⟨b, o + 2, none⟩ = some (.string s0) ∧ w'.cell? ⟨bx, 0, none⟩ = some (.int .i64 qk) ∧ w'.cell? ⟨bx, 1, none⟩ = some (.int .i64 qn) ∧ w'.cell? ⟨bx, 2, none⟩ = some (.string qs)) (go_keep)
     (first
      | (go_at_call 116; refine (rnumber_any _ _).mono ?_; rintro e w3 ⟨rfl, e3⟩; have E3 := Lib.hid (show Ext wy w3 from (Ext.refl wy).drew.trans e3); have x00 := (E3.out.cells.1 _ _ hbS0).trans c0; have x01 := (E3.out.cells.1 _ _ hbS0).trans c1; have x02 := (E3.out.cells.1 _ _ hbS0).trans c2; have x10 := (E3.out.cells.1 _ _ hbS1).trans f0; have x11 := (E3.out.cells.1 _ _ hbS1).trans f1; have x12 := (E3.out.cells.1 _ _ hbS1).trans f2; clear e3)
      | (go_at_call 84; refine (hS.out _ (HUY.out.heap.ext E3.out)).mono ?_; rintro e w6 ⟨rfl, hh6, ht6⟩; have U6 := Lib.hid (HUY.out.set HNF.out E3.out hh6 ht6); have y00 := (ht6.cells.1 b _ (Nat.lt_of_lt_of_le hbS0 E3.out.le) nb).trans x00; have y01 := (ht6.cells.1 b _ (Nat.lt_of_lt_of_le hbS0 E3.out.le) nb).trans x01; have y02 := (ht6.cells.1 b _ (Nat.lt_of_lt_of_le hbS0 E3.out.le) nb).trans x02; have y10 := (ht6.cells.1 bx _ (Nat.lt_of_lt_of_le hbS1 E3.out.le) nbx).trans x10; have y11 := (ht6.cells.1 bx _ (Nat.lt_of_lt_of_le hbS1 E3.out.le) nbx).trans x11; have y12 := (ht6.cells.1 bx _ (Nat.lt_of_lt_of_le hbS1 E3.out.le) nbx).trans x12; clear hh6 ht6))
    all_goals go_wp2_with fail
    all_goals (
     go_meet
     first
      | exact ⟨rfl, U6⟩
      | exact ⟨rfl, Lib.hid (by rw [zset U6.out.res]; exact U6.out)⟩)
   case rest =>
   obtain ⟨rfl, HUZ⟩ := hcut
   obtain ⟨wz, rfl⟩ : ∃ wz : World, wz = wc := ⟨_, rfl⟩
   clear HUY c0 c1 c2 f0 f1 f2 hbxl hby hS hwy1
   by_cases hs : st = sNone
   ·have HSP3 : Hid (upP ⟨k0, n0, s0⟩ p k (setH Hc ⟨k0, n0, s0⟩ (iK i) ⟨qk, qn, qs⟩) = x) := Lib.hid (by have := HSP2.out; rw [if_pos hs] at this; exact this)
    subst hs
    clear HSP2 HST
    go_wp2_with fail
    go_roundw
    case rel => exact ⟨i - 1, k, _, rfl, HIK, by have := HIK.out; omega, by have := HIK.out; omega, HSP3, HUZ⟩
    case measure => have := HIK.out; simp [intOf]; omega
   ·have hst1 := str_ne_empty hs
    have HV : Hid (r = .no Hc st) := Lib.hid (by
     have := HSP2.out
     rw [if_neg hs] at this
     rw [HRR.out, ← this, if_neg hs])
    have HNS := Lib.hid hs
    have hHc : setH Hc ⟨k0, n0, s0⟩ (iK i) ⟨qk, qn, qs⟩ = Hc := setH_no (by rw [HST.out]; exact hs)
    rw [hHc] at HUZ
    obtain ⟨z0, z1, z2, y0, y1, y2⟩ := three HUZ.out.res
    have hlt2 := HUZ.out.res.lt
    clear HSP2 HST hs hHc
    go_wp2_with fail
    exact bodyPost_ret (v := .tuple #[Vl.zero.v, .string st]) (by simp [results, Tryz.results123, go_sem, Vl.zero, *]) rfl (by rw [HV.out]; exact HUZ.out.done (r := Rs.no Hc st) rfl rfl (by rw [if_neg (show ¬ (Rs.no Hc st).w = sNone from HNS.out)]) _ _ _)
  ·have hd : decide (p < i) = false := decide_eq_false hge
   obtain rfl : p = i := by omega
   obtain rfl : k = 0 := by have := hik.out; omega
   have hxx : x = (Hc, sNone) := HSP.out.symm
   have HV : Hid (r = ⟨Vl.zero, setW Hc ⟨k0, n0, s0⟩ (iK p) ⟨kv, nv, sv⟩, setH Hc ⟨k0, n0, s0⟩ (iK p) ⟨kv, nv, sv⟩⟩) := Lib.hid (by rw [HRR.out, hxx, if_pos rfl])
   have hS := Lib.hid (fun (Z : World) (hZ : RHeapIn Z g tv Hc) => rset_any g tv Hc ⟨k0, n0, s0⟩ (iK p) ⟨kv, nv, sv⟩ Z hZ (by rw [HUP.out.len]; exact hlen) ⟨by show (-9223372036854775808 : Int) ≤ p; omega, by show p ≤ (9223372036854775807 : Int); omega⟩ HVN.out)
   obtain ⟨st, hst⟩ : ∃ st, setW Hc ⟨k0, n0, s0⟩ (iK p) ⟨kv, nv, sv⟩ = st := ⟨_, rfl⟩
   rw [hst] at hS HV
   obtain ⟨f0, f1, f2, _⟩ := three HUP.out.box
   have hbvl : bv < wr.heap.size := HUP.out.box.lt
   have nbv : ¬ RFoot g tv bv := HNF.out bv (by omega)
   have hbw1 : ¬ b = w.heap.size := by omega
   have hbw2 : ¬ w.heap.size = b := by omega
   obtain ⟨wz0, wz1, wz2, wy0, wy1, wy2⟩ := three HUP.out.res
   have hrl : w.heap.size < wr.heap.size := HUP.out.res.lt
   clear hxx hge hik hst HSP HRR
   go_wp2_with fail
   go_upto_region 16 with (fail)
   go_cut [5] (fun s5 wx => s5 = .string st ∧ Hid (RLpI w wx g tv H ⟨k0, n0, s0⟩ ⟨kv, nv, sv⟩ bv (setH Hc ⟨k0, n0, s0⟩ (iK p) ⟨kv, nv, sv⟩)))
   case first =>
    have hbS0 : b < wr.heap.size := hbr
    have hbS1 : bv < wr.heap.size := hbvl
    go_region_held3 (fun w' => w'.cell? ⟨b, o, none⟩ = some (.int .i64 k0) ∧ w'.cell? ⟨b, o + 1, none⟩ = some (.int .i64 n0) ∧ w'.cell? ⟨b, o + 2, none⟩ = some (.string s0) ∧ w'.cell? ⟨bv, 0, none⟩ = some (.int .i64 kv) ∧ w'.cell? ⟨bv, 1, none⟩ = some (.int .i64 nv) ∧ w'.cell? ⟨bv, 2, none⟩ = some (.string sv)) (go_keep)
     (first
      | (go_at_call 116; refine (rnumber_any _ _).mono ?_; rintro e w3 ⟨rfl, e3⟩; (try rw [zset (show Blk (World.drew wr) _ _ _ from HUP.out.res)] at e3); have E3 := Lib.hid (show Ext wr w3 from (Ext.refl wr).drew.trans e3); have x00 := (E3.out.cells.1 _ _ hbS0).trans c0; have x01 := (E3.out.cells.1 _ _ hbS0).trans c1; have x02 := (E3.out.cells.1 _ _ hbS0).trans c2; have x10 := (E3.out.cells.1 _ _ hbS1).trans f0; have x11 := (E3.out.cells.1 _ _ hbS1).trans f1; have x12 := (E3.out.cells.1 _ _ hbS1).trans f2; have RB3 := Lib.hid (HUP.out.res.ext E3.out); obtain ⟨rz0, rz1, rz2, ry0, ry1, ry2⟩ := three RB3.out; have rzl := RB3.out.lt; clear e3)
      | (go_at_call 84; (try rw [zset RB3.out]); refine (hS.out _ (HUP.out.heap.ext E3.out)).mono ?_; rintro e w6 ⟨rfl, hh6, ht6⟩; have U6 := Lib.hid (HUP.out.set HNF.out E3.out hh6 ht6); have y00 := (ht6.cells.1 b _ (Nat.lt_of_lt_of_le hbS0 E3.out.le) nb).trans x00; have y01 := (ht6.cells.1 b _ (Nat.lt_of_lt_of_le hbS0 E3.out.le) nb).trans x01; have y02 := (ht6.cells.1 b _ (Nat.lt_of_lt_of_le hbS0 E3.out.le) nb).trans x02; have y10 := (ht6.cells.1 bv _ (Nat.lt_of_lt_of_le hbS1 E3.out.le) nbv).trans x10; have y11 := (ht6.cells.1 bv _ (Nat.lt_of_lt_of_le hbS1 E3.out.le) nbv).trans x11; have y12 := (ht6.cells.1 bv _ (Nat.lt_of_lt_of_le hbS1 E3.out.le) nbv).trans x12; obtain ⟨qz0, qz1, qz2, qy0, qy1, qy2⟩ := three U6.out.res; have qzl := U6.out.res.lt; clear hh6 ht6))
    all_goals go_wp2_with fail
    all_goals (
     go_meet
     first
      | exact ⟨rfl, U6⟩
      | exact ⟨rfl, Lib.hid (by rw [zset U6.out.res]; exact U6.out)⟩)
   case rest =>
   obtain ⟨rfl, HUZ⟩ := hcut
   obtain ⟨wz, rfl⟩ : ∃ wz : World, wz = wc := ⟨_, rfl⟩
   clear HUP c0 c1 c2 f0 f1 f2 hbvl hS wz0 wz1 wz2 wy0 wy1 wy2 hrl
   obtain ⟨z0, z1, z2, y0, y1, y2⟩ := three HUZ.out.res
   have hlt2 := HUZ.out.res.lt
   go_wp2_with fail
   exact bodyPost_ret (v := .tuple #[Vl.zero.v, .string st]) (by simp [results, Tryz.results123, go_sem, Vl.zero, *]) rfl (by rw [HV.out]; exact HUZ.out.done' (r := ⟨Vl.zero, st, setH Hc ⟨k0, n0, s0⟩ (iK p) ⟨kv, nv, sv⟩⟩) rfl rfl (by show Vl.zero = if st = sNone then Vl.zero else Vl.zero; split <;> rfl))
end Go.Proofs.YtfagldjhibdfhaaGreatDoor
