/- LibraryBack: the walk. -/
import Derived.Test.YtfagldjhibdfhaaGreatDoorYLvB
namespace Go.Proofs.YtfagldjhibdfhaaGreatDoor
open Go.RowKit
set_option linter.unusedVariables false
set_option linter.unusedSimpArgs false

theorem heap_n (w : World) (c : Int) (q : Option Addr) (cap : Nat) (ts : List Tb) (n : Nat) (hn : ts.length = n) (hw : WIn c ts) (ht : TablesAt w q ts) :
  Calls Tryz.prog 25 #[.agg #[.int .i64 c, .slice q n cap]] w fun e w' => ∃ g, e = .returned (.pointer (some ⟨g, 0, none⟩)) ∧ NH w w' g (worldP c ts) [] := by
 subst hn
 exact heap_any w c q cap ts hw ht
theorem aboveL_false {l : List Vl} {m : Int} (h : aboveL l m = false) : ∀ k ∈ l, ¬ (k.k = 2 ∧ m < k.n) := fun k hk hh => by
 unfold aboveL at h
 rw [List.any_eq_false] at h
 have := h k hk
 simp [hh.1, hh.2] at this
set_option maxRecDepth 100000 in
set_option maxHeartbeats 8000000 in
theorem law_back (w : World) (c : Int) (q : Option Addr) (cap : Nat) (ts : List Tb) (tn pn : Int) (x : Vl) (ht : TablesAt w q ts) (hc : in64 c) (hn : ts.length ≤ maxLen) (hi : ∀ T ∈ ts, ItemsIn T) (htn : in64 tn) (hpn : in64 pn) (hx : VIn x) (hL : LLaid w) :
    Calls Tryz.prog 5 #[.agg #[.int .i64 c, .slice q ts.length cap], .agg #[.int .i64 tn, .int .i64 pn, .int .i64 x.k, .int .i64 x.n, .string x.s]] w fun e w' => e = .returned (.bool true) ∧ Ext w w' := by
  have mx : maxLen ≤ 9223372036854775807 := by decide
  have HL := Lib.hid hL
  have HC := Lib.hid hc
  have HTS := Lib.hid ht
  have HIN := Lib.hid hi
  have HTL := Lib.hid hn
  obtain ⟨n, hnn⟩ : ∃ n, ts.length = n := ⟨_, rfl⟩
  have HNN := Lib.hid hnn
  rw [hnn] at hn ⊢
  have hnI : (n : Int) ≤ 9223372036854775807 := by omega
  have HX := Lib.hid hx
  have HTN := Lib.hid htn
  have HPN := Lib.hid hpn
  obtain ⟨xk, xn, xs⟩ := x
  have htn1 := htn.1
  have htn2 := htn.2
  clear hL hc ht hi hn hnn mx hx htn hpn
  have V := Lib.hid (((VB.nil w).new w.heap.size rfl 41 #[.int .i64 c, .slice q n cap]).new (w.heap.size + 1) (by simp) 43 #[.int .i64 tn, .int .i64 pn, .int .i64 xk, .int .i64 xn, .string xs])
  show Calls Tryz.prog 5 #[.agg #[.int .i64 c, .slice q n cap], .agg #[.int .i64 tn, .int .i64 pn, .int .i64 xk, .int .i64 xn, .string xs]] w _
  go_enter Tryz.func5, Tryz.ntmps5
  go_wp2_with fail
  have HF := few_some _ c q cap ts (HTS.out.ext V.out.ext) HTL.out (fun T hT => (HIN.out T hT).1)
  rw [HNN.out] at HF
  refine HF.mono ?_
  clear HF
  rintro e w2 ⟨⟨b, rfl⟩, e2⟩
  replace V := Lib.hid (V.out.ext' e2)
  clear e2
  have hba : Blk w2 (w.heap.size) 41 #[.int .i64 c, .slice q n cap] := V.out.row (w.heap.size, 41, #[.int .i64 c, .slice q n cap]) (by simp)
  have a0 := hba.cell 0
  have a1 := hba.cell 1
  have hla := hba.lt
  simp only [List.getElem?_toArray, List.getElem?_cons_zero, List.getElem?_cons_succ] at a0 a1
  clear hba
  have hma : w.heap.size < w2.heap.size + 1 := by omega
  have hna : w.heap.size < w2.heap.size + 1 + 1 := by omega
  have hbb : Blk w2 (w.heap.size + 1) 43 #[.int .i64 tn, .int .i64 pn, .int .i64 xk, .int .i64 xn, .string xs] := V.out.row (w.heap.size + 1, 43, #[.int .i64 tn, .int .i64 pn, .int .i64 xk, .int .i64 xn, .string xs]) (by simp)
  have b0 := hbb.cell 0
  have b1 := hbb.cell 1
  have b2 := hbb.cell 2
  have b3 := hbb.cell 3
  have b4 := hbb.cell 4
  have hlb := hbb.lt
  simp only [List.getElem?_toArray, List.getElem?_cons_zero, List.getElem?_cons_succ] at b0 b1 b2 b3 b4
  clear hbb
  have hmb : w.heap.size + 1 < w2.heap.size + 1 := by omega
  have hnb : w.heap.size + 1 < w2.heap.size + 1 + 1 := by omega
  cases b with
  | false =>
    go_wp2_with fail
    refine (works_any _ (HL.out.ext V.out.ext)).mono ?_
    rintro e w99 ⟨rfl, e99⟩
    replace V := Lib.hid (V.out.ext' e99)
    clear e99
    go_wp2_with fail
    go_ret
    exact ⟨rfl, V.out.ext⟩
  | true =>
    by_cases hg : (100 : Int) < (n : Int)
    · have t1 : decide ((100 : Int) < (n : Int)) = true := decide_eq_true hg
      have u1 : decide (100 < n) = true := decide_eq_true (by omega)
      clear hg
      go_wp2_with fail
      refine (works_any _ (HL.out.ext V.out.ext)).mono ?_
      rintro e w99 ⟨rfl, e99⟩
      replace V := Lib.hid (V.out.ext' e99)
      clear e99
      go_wp2_with fail
      go_ret
      exact ⟨rfl, V.out.ext⟩
    have t1 : decide ((100 : Int) < (n : Int)) = false := decide_eq_false hg
    have u1 : decide (100 < n) = false := decide_eq_false (by omega)
    have hn1 : n ≤ 100 := by omega
    clear hg
    go_wp2_with fail
    replace V := Lib.hid (V.out.new (w2.heap.size) rfl 26 #[.int .i64 xk, .int .i64 xn, .string xs])
    refine (size_some (some ⟨w2.heap.size, 0, none⟩) [⟨xk, xn, xs⟩] 1 0 _ (blk_vals (Blk.new _ _ _) rfl) (by simp)).mono ?_
    rintro e w3 ⟨⟨z, rfl⟩, rfl⟩
    clear t1 u1
    by_cases hg : 3000 < z
    · have t2 : decide (3000 < z) = true := decide_eq_true hg
      clear hg
      go_wp2_with fail
      refine (works_any _ (HL.out.ext V.out.ext)).mono ?_
      rintro e w99 ⟨rfl, e99⟩
      replace V := Lib.hid (V.out.ext' e99)
      clear e99
      go_wp2_with fail
      go_ret
      exact ⟨rfl, V.out.ext⟩
    have t2 : decide (3000 < z) = false := decide_eq_false hg
    clear hg
    by_cases hg : tn < 0
    · have t3 : decide (tn < 0) = true := decide_eq_true hg
      clear hg
      go_wp2_with fail
      refine (works_any _ (HL.out.ext V.out.ext)).mono ?_
      rintro e w99 ⟨rfl, e99⟩
      replace V := Lib.hid (V.out.ext' e99)
      clear e99
      go_wp2_with fail
      go_ret
      exact ⟨rfl, V.out.ext⟩
    have t3 : decide (tn < 0) = false := decide_eq_false hg
    have ht0 : 0 ≤ tn := by omega
    clear hg
    by_cases hg : (n : Int) ≤ tn
    · have t4 : decide ((n : Int) ≤ tn) = true := decide_eq_true hg
      clear hg
      go_wp2_with fail
      refine (works_any _ (HL.out.ext V.out.ext)).mono ?_
      rintro e w99 ⟨rfl, e99⟩
      replace V := Lib.hid (V.out.ext' e99)
      clear e99
      go_wp2_with fail
      go_ret
      exact ⟨rfl, V.out.ext⟩
    have t4 : decide ((n : Int) ≤ tn) = false := decide_eq_false hg
    have ht1 : tn < (n : Int) := by omega
    clear hg
    go_wp2_with fail
    clear t2 t3 t4
    clear a0 a1 hla hma hna b0 b1 b2 b3 b4 hlb hmb hnb
    obtain ⟨WA, hWA⟩ : ∃ WA, w2.alloc (.cells #[.int .i64 xk, .int .i64 xn, .string xs] 26) = WA := ⟨_, rfl⟩
    rw [hWA] at V ⊢
    clear hWA
    obtain ⟨B0, hB0⟩ : ∃ B0, w.heap.size = B0 := ⟨_, rfl⟩
    obtain ⟨B1, hB1⟩ : ∃ B1, B0 + 1 = B1 := ⟨_, rfl⟩
    replace V := Lib.hid (VB.mk V.out.ext (fun p hp => V.out.row p (List.mem_cons_of_mem _ hp)) : VB w WA [(w.heap.size + 1, 43, #[.int .i64 tn, .int .i64 pn, .int .i64 xk, .int .i64 xn, .string xs]), (w.heap.size, 41, #[.int .i64 c, .slice q n cap])])
    rw [hB0, hB1] at V
    rw [hB0, hB1]
    have hw0 : w.heap.size ≤ B0 := by omega
    have hw1 : w.heap.size ≤ B1 := by omega
    have hne01 : ¬ B0 = B1 := by omega
    have hne10 : ¬ B1 = B0 := by omega
    clear hB0 hB1
    have HWI : Hid (WIn c ts) := Lib.hid (WIn.mk' HC.out (by rw [HNN.out]; omega) HIN.out)
    have HTA := Lib.hid (HTS.out.ext V.out.ext)
    have HWB : Hid (∀ p ∈ ([(B1, 43, #[.int .i64 tn, .int .i64 pn, .int .i64 xk, .int .i64 xn, .string xs]), (B0, 41, #[.int .i64 c, .slice q n cap])] : List (Nat × TypeId × Array Value)), w.heap.size ≤ p.1) := Lib.hid (fun p hp => by
      simp only [List.mem_cons, List.not_mem_nil, or_false] at hp
      rcases hp with rfl | rfl
      · exact hw1
      · exact hw0)
    obtain ⟨R, hR⟩ : ∃ R, worldP c ts = R := ⟨_, rfl⟩
    have HRL : Hid (R.tabs.length ≤ 1000000) := Lib.hid (by have := worldP_len c ts; rw [← hR]; have := HNN.out; omega)
    have HRR := Lib.hid hR
    clear hR
    have hba : Blk WA (B0) 41 #[.int .i64 c, .slice q n cap] := V.out.row (B0, 41, #[.int .i64 c, .slice q n cap]) (by simp)
    have a0 := hba.cell 0
    have a1 := hba.cell 1
    have hla := hba.lt
    simp only [List.getElem?_toArray, List.getElem?_cons_zero, List.getElem?_cons_succ] at a0 a1
    clear hba
    have hma : B0 < WA.heap.size + 1 := by omega
    have hna : B0 < WA.heap.size + 1 + 1 := by omega
    go_upto_region 3 with (fail)
    go_cut [5, 6] (fun s5 s6 wx => ∃ ga gb : Nat, s5 = .pointer (some ⟨ga, 0, none⟩) ∧ s6 = .pointer (some ⟨gb, 0, none⟩) ∧ Hid (BK w wx ga gb R R [(B1, 43, #[.int .i64 tn, .int .i64 pn, .int .i64 xk, .int .i64 xn, .string xs]), (B0, 41, #[.int .i64 c, .slice q n cap])]))
    case first =>
      go_region_held3 (fun w' => w'.cell? ⟨B0, 0, none⟩ = some (.int .i64 c) ∧ w'.cell? ⟨B0, 1, none⟩ = some (.slice q n cap)) (go_keep)
        (first
          | (go_at_call 25; with_reducible refine Calls.mono (heap_n _ c q cap ts n HNN.out HWI.out (HTA.out.ext N4.out.ext)) ?_; rintro e w5 ⟨gb, rfl, n5⟩; have N5 := Lib.hid n5; clear n5; have y0 := (N5.out.ext.cells.1 _ _ (Nat.lt_of_lt_of_le hla N4.out.ext.le)).trans x0; have y1 := (N5.out.ext.cells.1 _ _ (Nat.lt_of_lt_of_le hla N4.out.ext.le)).trans x1)
          | (go_at_call 25; with_reducible refine Calls.mono (heap_n _ c q cap ts n HNN.out HWI.out (HTA.out.ext (Ext.refl WA).drew)) ?_; rintro e w4 ⟨ga, rfl, n4⟩; have N4 := Lib.hid (NH.back (Ext.refl WA).drew n4); clear n4; have x0 := (N4.out.ext.cells.1 _ _ hla).trans a0; have x1 := (N4.out.ext.cells.1 _ _ hla).trans a1))
      all_goals go_wp2_with fail
      all_goals (
        go_meet
        exact ⟨_, _, rfl, rfl, Lib.hid (by have hb := BK.of V.out HWB.out N4.out N5.out; rw [HRR.out] at hb; exact hb)⟩)
    case rest =>
    obtain ⟨ga, gb, rfl, rfl, HM⟩ := hcut
    obtain ⟨wo, rfl⟩ : ∃ wo : World, wo = wc := ⟨_, rfl⟩
    replace V := HM
    clear HM HTA HWB
    clear a0 a1 hla hma hna
    obtain ⟨xb0, xb1, xb2, xb3, xb4, xbl, xbm, xbn, xbo, xbp, xbq⟩ := blk5 (V.out.row (B1, 43, #[.int .i64 tn, .int .i64 pn, .int .i64 xk, .int .i64 xn, .string xs]) (List.mem_cons_self ..)).2
    obtain ⟨xa0, xa1, xal, xam, xan, xao, xap, xaq⟩ := blk2 (V.out.row (B0, 41, #[.int .i64 c, .slice q n cap]) (List.mem_cons_of_mem _ (List.mem_cons_self ..))).2
    go_wp2_with fail
    refine (table_any _ _).mono ?_
    rintro e w6 ⟨rfl, e6⟩
    replace V := Lib.hid (V.out.ext' e6)
    clear e6
    clear xb0 xb1 xb2 xb3 xb4 xbl xbm xbn xbo xbp xbq xa0 xa1 xal xam xan xao xap xaq
    go_wp2_with fail
    replace V := Lib.hid (V.out.new w6.heap.size rfl 26 #[.int .i64 4, .int .i64 tn, .string ⟨#[]⟩])
    obtain ⟨kt, hkt⟩ : ∃ kt, w6.heap.size = kt := ⟨_, rfl⟩
    obtain ⟨WC, hWC⟩ : ∃ WC, w6.alloc (.cells #[.int .i64 4, .int .i64 tn, .string ⟨#[]⟩] 26) = WC := ⟨_, rfl⟩
    rw [hkt, hWC] at V
    rw [hkt, hWC]
    clear hkt hWC
    obtain ⟨xd0, xd1, xd2, xdl, xdm, xdn, xdo, xdp, xdq⟩ := blk3 (V.out.row (kt, 26, #[.int .i64 4, .int .i64 tn, .string ⟨#[]⟩]) (List.mem_cons_self ..)).2
    obtain ⟨xb0, xb1, xb2, xb3, xb4, xbl, xbm, xbn, xbo, xbp, xbq⟩ := blk5 (V.out.row (B1, 43, #[.int .i64 tn, .int .i64 pn, .int .i64 xk, .int .i64 xn, .string xs]) (List.mem_cons_of_mem _ (List.mem_cons_self ..))).2
    obtain ⟨xa0, xa1, xal, xam, xan, xao, xap, xaq⟩ := blk2 (V.out.row (B0, 41, #[.int .i64 c, .slice q n cap]) (List.mem_cons_of_mem _ (List.mem_cons_of_mem _ (List.mem_cons_self ..)))).2
    have HCC := Lib.hid (fun (X : World) (hx : Ext WC X) (M : List (Nat × TypeId × Array Value)) (k : Nat) (hb : Blk X k 26 #[.int .i64 4, .int .i64 tn, .string ⟨#[]⟩, .int .i64 2, .int .i64 pn, .string ⟨#[]⟩, .int .i64 xk, .int .i64 xn, .string xs]) (hk : WC.heap.size ≤ k) (hM : ∀ p ∈ M, WC.heap.size ≤ p.1 ∧ Blk X p.1 p.2.1 p.2.2) => bk_call V.out hx HL.out (by have := HRL.out; omega) ⟨#[105, 110, 115, 101, 114, 116]⟩ 4 (by kernel_rfl) M k 3 3 #[.int .i64 4, .int .i64 tn, .string ⟨#[]⟩, .int .i64 2, .int .i64 pn, .string ⟨#[]⟩, .int .i64 xk, .int .i64 xn, .string xs] [⟨4, tn, eN⟩, iK pn, ⟨xk, xn, xs⟩] hb hk rfl rfl (by decide) (n3 HTN.out HPN.out HX.out.n) hM)
    obtain ⟨gv, hgv⟩ : ∃ v, callV R ⟨#[105, 110, 115, 101, 114, 116]⟩ [⟨4, tn, eN⟩, iK pn, ⟨xk, xn, xs⟩] = v := ⟨_, rfl⟩
    obtain ⟨gw, hgw⟩ : ∃ v, callW R ⟨#[105, 110, 115, 101, 114, 116]⟩ [⟨4, tn, eN⟩, iK pn, ⟨xk, xn, xs⟩] = v := ⟨_, rfl⟩
    obtain ⟨G1, hgh⟩ : ∃ v, callH R ⟨#[105, 110, 115, 101, 114, 116]⟩ [⟨4, tn, eN⟩, iK pn, ⟨xk, xn, xs⟩] = v := ⟨_, rfl⟩
    have hgb : callB ⟨#[105, 110, 115, 101, 114, 116]⟩ = true := by kernel_rfl
    rw [hgv, hgw, hgh, hgb] at HCC
    have HGV := Lib.hid hgv
    have HGW := Lib.hid hgw
    have HGH := Lib.hid hgh
    obtain ⟨gk, gn, gs⟩ := gv
    clear hgv hgw hgh hgb
    go_upto_region 5 with (fail)
    go_cut [9, 10] (fun s9 s10 wx => s9 = .string gw ∧ s10 = .bool true ∧ Hid (BK w wx ga gb G1 R [(kt, 26, #[.int .i64 4, .int .i64 tn, .string ⟨#[]⟩]), (B1, 43, #[.int .i64 tn, .int .i64 pn, .int .i64 xk, .int .i64 xn, .string xs]), (B0, 41, #[.int .i64 c, .slice q n cap])]))
    case first =>
      go_region_held3 (fun w' => w'.cell? ⟨kt, 0, none⟩ = some (.int .i64 4) ∧ w'.cell? ⟨kt, 1, none⟩ = some (.int .i64 tn) ∧ w'.cell? ⟨kt, 2, none⟩ = some (.string ⟨#[]⟩) ∧ w'.cell? ⟨B1, 1, none⟩ = some (.int .i64 pn) ∧ w'.cell? ⟨B1, 2, none⟩ = some (.int .i64 xk) ∧ w'.cell? ⟨B1, 3, none⟩ = some (.int .i64 xn) ∧ w'.cell? ⟨B1, 4, none⟩ = some (.string xs)) (go_keep)
        (first
              | (go_at_call 17; with_reducible refine Calls.mono (int_any _ _) ?_; rintro e w7 ⟨rfl, e6⟩; have hq : Ext WC w7 := (by first | (with_reducible exact e6) | (with_reducible exact (Ext.of_drew e6)) | (with_reducible exact (Ext.of_alloc e6)) | (with_reducible exact (Ext.of_drew (Ext.of_alloc e6))) | (with_reducible exact (Ext.of_alloc (Ext.of_drew e6))) | (with_reducible exact (Ext.of_alloc (Ext.of_alloc e6))) | (with_reducible exact (Ext.of_drew (Ext.of_alloc (Ext.of_alloc e6)))) | (with_reducible exact (Ext.of_alloc (Ext.of_drew (Ext.of_alloc e6)))) | (with_reducible exact (Ext.of_alloc (Ext.of_alloc (Ext.of_drew e6))))); have V6 := Lib.hid (V.out.ext' hq); have hle6 : WC.heap.size ≤ w7.heap.size := hq.le; have HQ6 := Lib.hid hq; obtain ⟨yd0, yd1, yd2, ydl, ydm, ydn, ydo, ydp, ydq⟩ := blk3 (V6.out.row (kt, 26, #[.int .i64 4, .int .i64 tn, .string ⟨#[]⟩]) (List.mem_cons_self ..)).2; obtain ⟨yb0, yb1, yb2, yb3, yb4, ybl, ybm, ybn, ybo, ybp, ybq⟩ := blk5 (V6.out.row (B1, 43, #[.int .i64 tn, .int .i64 pn, .int .i64 xk, .int .i64 xn, .string xs]) (List.mem_cons_of_mem _ (List.mem_cons_self ..))).2; obtain ⟨ya0, ya1, yal, yam, yan, yao, yap, yaq⟩ := blk2 (V6.out.row (B0, 41, #[.int .i64 c, .slice q n cap]) (List.mem_cons_of_mem _ (List.mem_cons_of_mem _ (List.mem_cons_self ..)))).2; (try (have zz : ZV w7 (WC.heap.size) := (by first | (with_reducible refine ZV.new _ ?_ e6; (simp; done)) | (with_reducible refine ZV.newd _ ?_ e6; (simp; done)) | (with_reducible refine ZV.new _ ?_ (Ext.of_alloc e6); (simp; done)) | (with_reducible refine ZV.newd _ ?_ (Ext.of_alloc e6); (simp; done)) | (with_reducible refine ZV.new _ ?_ (Ext.of_drew (Ext.of_alloc e6)); (simp; done)) | (with_reducible refine ZV.newd _ ?_ (Ext.of_drew (Ext.of_alloc e6)); (simp; done)) | (with_reducible refine ZV.new _ ?_ (Ext.of_alloc (Ext.of_drew e6)); (simp; done)) | (with_reducible refine ZV.newd _ ?_ (Ext.of_alloc (Ext.of_drew e6)); (simp; done))); obtain ⟨zlP, zcP, zdP, zeP, zfP, zgP, zhP⟩ := ZV.facts zz; have zmP : WC.heap.size < w7.heap.size + 1 := (by omega); have zoP : ¬ w7.heap.size = WC.heap.size := (by omega); have zpP : ¬ WC.heap.size = w7.heap.size := (by omega); have zqP : ¬ w7.heap.size + 1 = WC.heap.size := (by omega); have zrP : ¬ WC.heap.size = w7.heap.size + 1 := (by omega); have zsPd : ¬ WC.heap.size = kt := (by omega); have ztPd : ¬ kt = WC.heap.size := (by omega); have zsPb : ¬ WC.heap.size = B1 := (by omega); have ztPb : ¬ B1 = WC.heap.size := (by omega); have zsPa : ¬ WC.heap.size = B0 := (by omega); have ztPa : ¬ B0 = WC.heap.size := (by omega); have ZP6 := Lib.hid zz; clear zz)); clear hq e6)
              | (go_at_call 15; (first
                  | ((with_reducible refine Calls.mono (HCC.out _ ?hx [(w7.heap.size, 26, #[.int .i64 0, .int .i64 0, .string ⟨#[]⟩])] _ ?hb ?hk ?hM) ?_); (case hx => ((repeat (first | (with_reducible exact HQ6.out) | (with_reducible refine Ext.alloc ?_ _) | (with_reducible refine Ext.drew ?_))); done)); (case hb => ((repeat (first | (with_reducible exact ZV.blk ZP6.out) | (with_reducible exact Blk.new _ _ _) | (with_reducible refine Blk.new' ?_; (simp; done)) | (with_reducible refine Blk.alloc ?_ _) | (with_reducible refine Blk.drew ?_))); done)); (case hk => (first | omega | (simp; omega))); (case hM => (intro p hp; rw [List.mem_singleton] at hp; subst hp; dsimp only; refine ⟨?_, ?_⟩; (focus omega); (focus ((repeat (first | (with_reducible exact ZV.blk ZP6.out) | (with_reducible exact Blk.new _ _ _) | (with_reducible refine Blk.new' ?_; (simp; done)) | (with_reducible refine Blk.alloc ?_ _) | (with_reducible refine Blk.drew ?_))); done)))); rintro e w8 ⟨rfl, n7⟩; simp only [List.cons_append, List.nil_append] at n7; have F7 := Lib.hid n7; have G7 := Lib.hid n7.tail; obtain ⟨zlZ, zcZ, zdZ, zeZ, zfZ, zgZ, zhZ⟩ := ZV.facts (show ZV w8 _ from (n7.row _ (List.mem_cons_self ..)).2); have zmZ : w7.heap.size < w8.heap.size + 1 := (by omega); have zoZ : ¬ w8.heap.size = w7.heap.size := (by omega); have zpZ : ¬ w7.heap.size = w8.heap.size := (by omega); have zqZ : ¬ w8.heap.size + 1 = w7.heap.size := (by omega); have zrZ : ¬ w7.heap.size = w8.heap.size + 1 := (by omega); have zsZd : ¬ w7.heap.size = kt := (by omega); have ztZd : ¬ kt = w7.heap.size := (by omega); have zsZb : ¬ w7.heap.size = B1 := (by omega); have ztZb : ¬ B1 = w7.heap.size := (by omega); have zsZa : ¬ w7.heap.size = B0 := (by omega); have ztZa : ¬ B0 = w7.heap.size := (by omega); have HD7 : Hid (∀ p ∈ ([(kt, 26, #[.int .i64 4, .int .i64 tn, .string ⟨#[]⟩]), (B1, 43, #[.int .i64 tn, .int .i64 pn, .int .i64 xk, .int .i64 xn, .string xs]), (B0, 41, #[.int .i64 c, .slice q n cap])] : List (Nat × TypeId × Array Value)), p.1 ≠ w7.heap.size) := Lib.hid (fun p hp => Nat.ne_of_lt (Nat.lt_of_lt_of_le (V.out.row p hp).2.lt (by omega))); clear n7)
                  | ((with_reducible refine Calls.mono (HCC.out _ ?hx [(w7.heap.size + 1, 26, #[.int .i64 0, .int .i64 0, .string ⟨#[]⟩])] _ ?hb ?hk ?hM) ?_); (case hx => ((repeat (first | (with_reducible exact HQ6.out) | (with_reducible refine Ext.alloc ?_ _) | (with_reducible refine Ext.drew ?_))); done)); (case hb => ((repeat (first | (with_reducible exact ZV.blk ZP6.out) | (with_reducible exact Blk.new _ _ _) | (with_reducible refine Blk.new' ?_; (simp; done)) | (with_reducible refine Blk.alloc ?_ _) | (with_reducible refine Blk.drew ?_))); done)); (case hk => (first | omega | (simp; omega))); (case hM => (intro p hp; rw [List.mem_singleton] at hp; subst hp; dsimp only; refine ⟨?_, ?_⟩; (focus omega); (focus ((repeat (first | (with_reducible exact ZV.blk ZP6.out) | (with_reducible exact Blk.new _ _ _) | (with_reducible refine Blk.new' ?_; (simp; done)) | (with_reducible refine Blk.alloc ?_ _) | (with_reducible refine Blk.drew ?_))); done)))); rintro e w8 ⟨rfl, n7⟩; simp only [List.cons_append, List.nil_append] at n7; have F7 := Lib.hid n7; have G7 := Lib.hid n7.tail; obtain ⟨zlZ, zcZ, zdZ, zeZ, zfZ, zgZ, zhZ⟩ := ZV.facts (show ZV w8 _ from (n7.row _ (List.mem_cons_self ..)).2); have zmZ : w7.heap.size + 1 < w8.heap.size + 1 := (by omega); have zoZ : ¬ w8.heap.size = w7.heap.size + 1 := (by omega); have zpZ : ¬ w7.heap.size + 1 = w8.heap.size := (by omega); have zqZ : ¬ w8.heap.size + 1 = w7.heap.size + 1 := (by omega); have zrZ : ¬ w7.heap.size + 1 = w8.heap.size + 1 := (by omega); have zsZd : ¬ w7.heap.size + 1 = kt := (by omega); have ztZd : ¬ kt = w7.heap.size + 1 := (by omega); have zsZb : ¬ w7.heap.size + 1 = B1 := (by omega); have ztZb : ¬ B1 = w7.heap.size + 1 := (by omega); have zsZa : ¬ w7.heap.size + 1 = B0 := (by omega); have ztZa : ¬ B0 = w7.heap.size + 1 := (by omega); have HD7 : Hid (∀ p ∈ ([(kt, 26, #[.int .i64 4, .int .i64 tn, .string ⟨#[]⟩]), (B1, 43, #[.int .i64 tn, .int .i64 pn, .int .i64 xk, .int .i64 xn, .string xs]), (B0, 41, #[.int .i64 c, .slice q n cap])] : List (Nat × TypeId × Array Value)), p.1 ≠ w7.heap.size + 1) := Lib.hid (fun p hp => Nat.ne_of_lt (Nat.lt_of_lt_of_le (V.out.row p hp).2.lt (by omega))); clear n7)
                  | ((with_reducible refine Calls.mono (HCC.out _ ?hx [(WC.heap.size, 26, #[.int .i64 0, .int .i64 0, .string ⟨#[]⟩])] _ ?hb ?hk ?hM) ?_); (case hx => ((repeat (first | (with_reducible exact HQ6.out) | (with_reducible refine Ext.alloc ?_ _) | (with_reducible refine Ext.drew ?_))); done)); (case hb => ((repeat (first | (with_reducible exact ZV.blk ZP6.out) | (with_reducible exact Blk.new _ _ _) | (with_reducible refine Blk.new' ?_; (simp; done)) | (with_reducible refine Blk.alloc ?_ _) | (with_reducible refine Blk.drew ?_))); done)); (case hk => (first | omega | (simp; omega))); (case hM => (intro p hp; rw [List.mem_singleton] at hp; subst hp; dsimp only; refine ⟨?_, ?_⟩; (focus omega); (focus ((repeat (first | (with_reducible exact ZV.blk ZP6.out) | (with_reducible exact Blk.new _ _ _) | (with_reducible refine Blk.new' ?_; (simp; done)) | (with_reducible refine Blk.alloc ?_ _) | (with_reducible refine Blk.drew ?_))); done)))); rintro e w8 ⟨rfl, n7⟩; simp only [List.cons_append, List.nil_append] at n7; have F7 := Lib.hid n7; have G7 := Lib.hid n7.tail; obtain ⟨zlZ, zcZ, zdZ, zeZ, zfZ, zgZ, zhZ⟩ := ZV.facts (show ZV w8 _ from (n7.row _ (List.mem_cons_self ..)).2); have zmZ : WC.heap.size < w8.heap.size + 1 := (by omega); have zoZ : ¬ w8.heap.size = WC.heap.size := (by omega); have zpZ : ¬ WC.heap.size = w8.heap.size := (by omega); have zqZ : ¬ w8.heap.size + 1 = WC.heap.size := (by omega); have zrZ : ¬ WC.heap.size = w8.heap.size + 1 := (by omega); have zsZd : ¬ WC.heap.size = kt := (by omega); have ztZd : ¬ kt = WC.heap.size := (by omega); have zsZb : ¬ WC.heap.size = B1 := (by omega); have ztZb : ¬ B1 = WC.heap.size := (by omega); have zsZa : ¬ WC.heap.size = B0 := (by omega); have ztZa : ¬ B0 = WC.heap.size := (by omega); have HD7 : Hid (∀ p ∈ ([(kt, 26, #[.int .i64 4, .int .i64 tn, .string ⟨#[]⟩]), (B1, 43, #[.int .i64 tn, .int .i64 pn, .int .i64 xk, .int .i64 xn, .string xs]), (B0, 41, #[.int .i64 c, .slice q n cap])] : List (Nat × TypeId × Array Value)), p.1 ≠ WC.heap.size) := Lib.hid (fun p hp => Nat.ne_of_lt (Nat.lt_of_lt_of_le (V.out.row p hp).2.lt (by omega))); clear n7)
                  | ((with_reducible refine Calls.mono (HCC.out _ ?hx [] _ ?hb ?hk ?hM) ?_); (case hx => ((repeat (first | (with_reducible exact HQ6.out) | (with_reducible refine Ext.alloc ?_ _) | (with_reducible refine Ext.drew ?_))); done)); (case hb => ((repeat (first | (with_reducible exact ZV.blk ZP6.out) | (with_reducible exact Blk.new _ _ _) | (with_reducible refine Blk.new' ?_; (simp; done)) | (with_reducible refine Blk.alloc ?_ _) | (with_reducible refine Blk.drew ?_))); done)); (case hk => (first | omega | (simp; omega))); (case hM => (intro p hp; exact (List.not_mem_nil hp).elim)); rintro e w8 ⟨rfl, n7⟩; simp only [List.cons_append, List.nil_append] at n7; have G7 := Lib.hid n7; clear n7)); obtain ⟨vd0, vd1, vd2, vdl, vdm, vdn, vdo, vdp, vdq⟩ := blk3 (G7.out.row (kt, 26, #[.int .i64 4, .int .i64 tn, .string ⟨#[]⟩]) (List.mem_cons_self ..)).2; obtain ⟨vb0, vb1, vb2, vb3, vb4, vbl, vbm, vbn, vbo, vbp, vbq⟩ := blk5 (G7.out.row (B1, 43, #[.int .i64 tn, .int .i64 pn, .int .i64 xk, .int .i64 xn, .string xs]) (List.mem_cons_of_mem _ (List.mem_cons_self ..))).2; obtain ⟨va0, va1, val, vam, van, vao, vap, vaq⟩ := blk2 (G7.out.row (B0, 41, #[.int .i64 c, .slice q n cap]) (List.mem_cons_of_mem _ (List.mem_cons_of_mem _ (List.mem_cons_self ..)))).2))
      all_goals go_wp2_with fail
      all_goals (
        go_meet
        first
          | exact ⟨rfl, rfl, Lib.hid (G7.out.ext' ((Ext.refl _).alloc _))⟩
          | exact ⟨rfl, rfl, Lib.hid (BK.tail (BK.put F7.out HD7.out _ _ _))⟩)
    case rest =>
    clear xd0 xd1 xd2 xdl xdm xdn xdo xdp xdq xb0 xb1 xb2 xb3 xb4 xbl xbm xbn xbo xbp xbq xa0 xa1 xal xam xan xao xap xaq HCC
    obtain ⟨rfl, rfl, HM⟩ := hcut
    obtain ⟨wo, rfl⟩ : ∃ wo : World, wo = wc := ⟨_, rfl⟩
    replace V := HM
    clear HM HGV
    rcases Decidable.em (gw = sNone) with hw | hw
    rotate_left
    · have hw1 : gw.toList.isEmpty = false := by rw [Bool.eq_false_iff]; intro h; exact hw (toList_nil (by simpa using h))
      have hw2 : ¬ gw.toList = [] := by simpa using hw1
      clear hw
      go_wp2_with fail
      refine (works_any _ (HL.out.ext V.out.ext)).mono ?_
      rintro e w99 ⟨rfl, e99⟩
      replace V := Lib.hid (V.out.ext' e99)
      clear e99
      go_wp2_with fail
      go_ret
      exact ⟨rfl, V.out.ext⟩
    subst hw
    have HI := Lib.hid (ins_call (H := R) (t := ⟨4, tn, eN⟩) (v := ⟨xk, xn, xs⟩) (p := pn) HGW.out)
    have hba := back_any V.out.okB HI.out.1 HX.out.n HI.out.2.1
    have hia := ins_any V.out.okB HI.out.1 HX.out.n HI.out.2.1
    have hG1 : (insertR R ⟨4, tn, eN⟩ pn ⟨xk, xn, xs⟩).H = G1 := HI.out.2.2.symm.trans HGH.out
    rw [hG1] at hba hia
    have HBA := Lib.hid hba
    have HIA := Lib.hid hia.of
    have HG1L : Hid (G1.tabs.length ≤ 1000001) := Lib.hid (by rw [← HGH.out]; have := callH_len R ⟨#[105, 110, 115, 101, 114, 116]⟩ [⟨4, tn, eN⟩, iK pn, ⟨xk, xn, xs⟩]; have := HRL.out; omega)
    have lw0 := (lenV_tab HI.out.1).2
    have lw1 := (lenV_tab hia.of).2
    have hlong := hba.long
    obtain ⟨ln0, hl0⟩ : ∃ l, lenV R ⟨4, tn, eN⟩ = l := ⟨_, rfl⟩
    obtain ⟨ln1, hl1⟩ : ∃ l, lenV G1 ⟨4, tn, eN⟩ = l := ⟨_, rfl⟩
    rw [hl0, hl1] at hlong
    have HL0 := Lib.hid hl0
    have HCA := Lib.hid (fun (X : World) (h : BK w X ga gb G1 R [(kt, 26, #[.int .i64 4, .int .i64 tn, .string ⟨#[]⟩]), (B1, 43, #[.int .i64 tn, .int .i64 pn, .int .i64 xk, .int .i64 xn, .string xs]), (B0, 41, #[.int .i64 c, .slice q n cap])]) => bk_lenA h (by have := HG1L.out; omega) ⟨4, tn, eN⟩)
    have HCB := Lib.hid (fun (X : World) (h : BK w X ga gb G1 R [(kt, 26, #[.int .i64 4, .int .i64 tn, .string ⟨#[]⟩]), (B1, 43, #[.int .i64 tn, .int .i64 pn, .int .i64 xk, .int .i64 xn, .string xs]), (B0, 41, #[.int .i64 c, .slice q n cap])]) => bk_lenB h (by have := HRL.out; omega) ⟨4, tn, eN⟩)
    rw [hl1, lw1] at HCA
    rw [hl0, lw0] at HCB
    have hs0 := sNone_list
    have hs1 : sNone.toList.isEmpty = true := by rw [hs0]; rfl
    have t1 : decide (ln1 ≤ ln0) = false := decide_eq_false (by omega)
    clear hba hia hG1 lw0 lw1 hl0 hl1 hlong HGW HGH gk gn gs
    obtain ⟨xd0, xd1, xd2, xdl, xdm, xdn, xdo, xdp, xdq⟩ := blk3 (V.out.row (kt, 26, #[.int .i64 4, .int .i64 tn, .string ⟨#[]⟩]) (List.mem_cons_self ..)).2
    obtain ⟨xb0, xb1, xb2, xb3, xb4, xbl, xbm, xbn, xbo, xbp, xbq⟩ := blk5 (V.out.row (B1, 43, #[.int .i64 tn, .int .i64 pn, .int .i64 xk, .int .i64 xn, .string xs]) (List.mem_cons_of_mem _ (List.mem_cons_self ..))).2
    obtain ⟨xa0, xa1, xal, xam, xan, xao, xap, xaq⟩ := blk2 (V.out.row (B0, 41, #[.int .i64 c, .slice q n cap]) (List.mem_cons_of_mem _ (List.mem_cons_of_mem _ (List.mem_cons_self ..)))).2
    go_wp2_with fail
    refine (show Calls Tryz.prog 27 #[.pointer (some ⟨ga, 0, none⟩), .agg #[.int .i64 4, .int .i64 tn, .string ⟨#[]⟩]] _ _ from HCA.out _ V.out).mono ?_
    rintro e w9 ⟨rfl, e9⟩
    replace V := Lib.hid (V.out.ext' e9)
    clear e9 HCA
    clear xd0 xd1 xd2 xdl xdm xdn xdo xdp xdq xb0 xb1 xb2 xb3 xb4 xbl xbm xbn xbo xbp xbq xa0 xa1 xal xam xan xao xap xaq
    obtain ⟨xd0, xd1, xd2, xdl, xdm, xdn, xdo, xdp, xdq⟩ := blk3 (V.out.row (kt, 26, #[.int .i64 4, .int .i64 tn, .string ⟨#[]⟩]) (List.mem_cons_self ..)).2
    obtain ⟨xb0, xb1, xb2, xb3, xb4, xbl, xbm, xbn, xbo, xbp, xbq⟩ := blk5 (V.out.row (B1, 43, #[.int .i64 tn, .int .i64 pn, .int .i64 xk, .int .i64 xn, .string xs]) (List.mem_cons_of_mem _ (List.mem_cons_self ..))).2
    obtain ⟨xa0, xa1, xal, xam, xan, xao, xap, xaq⟩ := blk2 (V.out.row (B0, 41, #[.int .i64 c, .slice q n cap]) (List.mem_cons_of_mem _ (List.mem_cons_of_mem _ (List.mem_cons_self ..)))).2
    go_wp2_with fail
    refine (show Calls Tryz.prog 27 #[.pointer (some ⟨gb, 0, none⟩), .agg #[.int .i64 4, .int .i64 tn, .string ⟨#[]⟩]] _ _ from HCB.out _ V.out).mono ?_
    rintro e w10 ⟨rfl, e10⟩
    replace V := Lib.hid (V.out.ext' e10)
    clear e10 HCB
    clear xd0 xd1 xd2 xdl xdm xdn xdo xdp xdq xb0 xb1 xb2 xb3 xb4 xbl xbm xbn xbo xbp xbq xa0 xa1 xal xam xan xao xap xaq
    go_wp2_with fail
    clear t1
    obtain ⟨xd0, xd1, xd2, xdl, xdm, xdn, xdo, xdp, xdq⟩ := blk3 (V.out.row (kt, 26, #[.int .i64 4, .int .i64 tn, .string ⟨#[]⟩]) (List.mem_cons_self ..)).2
    obtain ⟨xb0, xb1, xb2, xb3, xb4, xbl, xbm, xbn, xbo, xbp, xbq⟩ := blk5 (V.out.row (B1, 43, #[.int .i64 tn, .int .i64 pn, .int .i64 xk, .int .i64 xn, .string xs]) (List.mem_cons_of_mem _ (List.mem_cons_self ..))).2
    obtain ⟨xa0, xa1, xal, xam, xan, xao, xap, xaq⟩ := blk2 (V.out.row (B0, 41, #[.int .i64 c, .slice q n cap]) (List.mem_cons_of_mem _ (List.mem_cons_of_mem _ (List.mem_cons_self ..)))).2
    have HCC := Lib.hid (fun (X : World) (hx : Ext w10 X) (M : List (Nat × TypeId × Array Value)) (k : Nat) (hb : Blk X k 26 #[.int .i64 4, .int .i64 tn, .string ⟨#[]⟩, .int .i64 2, .int .i64 pn, .string ⟨#[]⟩]) (hk : w10.heap.size ≤ k) (hM : ∀ p ∈ M, w10.heap.size ≤ p.1 ∧ Blk X p.1 p.2.1 p.2.2) => bk_call V.out hx HL.out (by have := HG1L.out; omega) ⟨#[114, 101, 109, 111, 118, 101]⟩ 7 (by kernel_rfl) M k 2 2 #[.int .i64 4, .int .i64 tn, .string ⟨#[]⟩, .int .i64 2, .int .i64 pn, .string ⟨#[]⟩] [⟨4, tn, eN⟩, iK pn] hb hk rfl rfl (by decide) (n2 HTN.out HPN.out) hM)
    obtain ⟨gv, hgv⟩ : ∃ v, callV G1 ⟨#[114, 101, 109, 111, 118, 101]⟩ [⟨4, tn, eN⟩, iK pn] = v := ⟨_, rfl⟩
    obtain ⟨gw, hgw⟩ : ∃ v, callW G1 ⟨#[114, 101, 109, 111, 118, 101]⟩ [⟨4, tn, eN⟩, iK pn] = v := ⟨_, rfl⟩
    obtain ⟨G2, hgh⟩ : ∃ v, callH G1 ⟨#[114, 101, 109, 111, 118, 101]⟩ [⟨4, tn, eN⟩, iK pn] = v := ⟨_, rfl⟩
    have hgb : callB ⟨#[114, 101, 109, 111, 118, 101]⟩ = true := by kernel_rfl
    rw [hgv, hgw, hgh, hgb] at HCC
    have HGV := Lib.hid hgv
    have HGW := Lib.hid hgw
    have HGH := Lib.hid hgh
    obtain ⟨gk, gn, gs⟩ := gv
    clear hgv hgw hgh hgb
    go_upto_region 12 with (fail)
    go_cut [15, 16, 17] (fun s15 s16 s17 wx => ∃ k15 : Nat, s15 = .pointer (some ⟨k15, 0, none⟩) ∧ s16 = .string gw ∧ s17 = .bool true ∧ Hid (BK w wx ga gb G2 R ((k15, 26, #[.int .i64 gk, .int .i64 gn, .string gs]) :: [(kt, 26, #[.int .i64 4, .int .i64 tn, .string ⟨#[]⟩]), (B1, 43, #[.int .i64 tn, .int .i64 pn, .int .i64 xk, .int .i64 xn, .string xs]), (B0, 41, #[.int .i64 c, .slice q n cap])])))
    case first =>
      go_region_held3 (fun w' => w'.cell? ⟨kt, 0, none⟩ = some (.int .i64 4) ∧ w'.cell? ⟨kt, 1, none⟩ = some (.int .i64 tn) ∧ w'.cell? ⟨kt, 2, none⟩ = some (.string ⟨#[]⟩) ∧ w'.cell? ⟨B1, 1, none⟩ = some (.int .i64 pn)) (go_keep)
        (first
              | (go_at_call 17; with_reducible refine Calls.mono (int_any _ _) ?_; rintro e w7 ⟨rfl, e6⟩; have hq : Ext w10 w7 := (by first | (with_reducible exact e6) | (with_reducible exact (Ext.of_drew e6)) | (with_reducible exact (Ext.of_alloc e6)) | (with_reducible exact (Ext.of_drew (Ext.of_alloc e6))) | (with_reducible exact (Ext.of_alloc (Ext.of_drew e6))) | (with_reducible exact (Ext.of_alloc (Ext.of_alloc e6))) | (with_reducible exact (Ext.of_drew (Ext.of_alloc (Ext.of_alloc e6)))) | (with_reducible exact (Ext.of_alloc (Ext.of_drew (Ext.of_alloc e6)))) | (with_reducible exact (Ext.of_alloc (Ext.of_alloc (Ext.of_drew e6))))); have V6 := Lib.hid (V.out.ext' hq); have hle6 : w10.heap.size ≤ w7.heap.size := hq.le; have HQ6 := Lib.hid hq; obtain ⟨yd0, yd1, yd2, ydl, ydm, ydn, ydo, ydp, ydq⟩ := blk3 (V6.out.row (kt, 26, #[.int .i64 4, .int .i64 tn, .string ⟨#[]⟩]) (List.mem_cons_self ..)).2; obtain ⟨yb0, yb1, yb2, yb3, yb4, ybl, ybm, ybn, ybo, ybp, ybq⟩ := blk5 (V6.out.row (B1, 43, #[.int .i64 tn, .int .i64 pn, .int .i64 xk, .int .i64 xn, .string xs]) (List.mem_cons_of_mem _ (List.mem_cons_self ..))).2; obtain ⟨ya0, ya1, yal, yam, yan, yao, yap, yaq⟩ := blk2 (V6.out.row (B0, 41, #[.int .i64 c, .slice q n cap]) (List.mem_cons_of_mem _ (List.mem_cons_of_mem _ (List.mem_cons_self ..)))).2; (try (have zz : ZV w7 (w10.heap.size) := (by first | (with_reducible refine ZV.new _ ?_ e6; (simp; done)) | (with_reducible refine ZV.newd _ ?_ e6; (simp; done)) | (with_reducible refine ZV.new _ ?_ (Ext.of_alloc e6); (simp; done)) | (with_reducible refine ZV.newd _ ?_ (Ext.of_alloc e6); (simp; done)) | (with_reducible refine ZV.new _ ?_ (Ext.of_drew (Ext.of_alloc e6)); (simp; done)) | (with_reducible refine ZV.newd _ ?_ (Ext.of_drew (Ext.of_alloc e6)); (simp; done)) | (with_reducible refine ZV.new _ ?_ (Ext.of_alloc (Ext.of_drew e6)); (simp; done)) | (with_reducible refine ZV.newd _ ?_ (Ext.of_alloc (Ext.of_drew e6)); (simp; done))); obtain ⟨zlP, zcP, zdP, zeP, zfP, zgP, zhP⟩ := ZV.facts zz; have zmP : w10.heap.size < w7.heap.size + 1 := (by omega); have zoP : ¬ w7.heap.size = w10.heap.size := (by omega); have zpP : ¬ w10.heap.size = w7.heap.size := (by omega); have zqP : ¬ w7.heap.size + 1 = w10.heap.size := (by omega); have zrP : ¬ w10.heap.size = w7.heap.size + 1 := (by omega); have zsPd : ¬ w10.heap.size = kt := (by omega); have ztPd : ¬ kt = w10.heap.size := (by omega); have zsPb : ¬ w10.heap.size = B1 := (by omega); have ztPb : ¬ B1 = w10.heap.size := (by omega); have zsPa : ¬ w10.heap.size = B0 := (by omega); have ztPa : ¬ B0 = w10.heap.size := (by omega); have ZP6 := Lib.hid zz; clear zz)); clear hq e6)
              | (go_at_call 15; (first
                  | ((with_reducible refine Calls.mono (HCC.out _ ?hx [(w7.heap.size, 26, #[.int .i64 0, .int .i64 0, .string ⟨#[]⟩])] _ ?hb ?hk ?hM) ?_); (case hx => ((repeat (first | (with_reducible exact HQ6.out) | (with_reducible refine Ext.alloc ?_ _) | (with_reducible refine Ext.drew ?_))); done)); (case hb => ((repeat (first | (with_reducible exact ZV.blk ZP6.out) | (with_reducible exact Blk.new _ _ _) | (with_reducible refine Blk.new' ?_; (simp; done)) | (with_reducible refine Blk.alloc ?_ _) | (with_reducible refine Blk.drew ?_))); done)); (case hk => (first | omega | (simp; omega))); (case hM => (intro p hp; rw [List.mem_singleton] at hp; subst hp; dsimp only; refine ⟨?_, ?_⟩; (focus omega); (focus ((repeat (first | (with_reducible exact ZV.blk ZP6.out) | (with_reducible exact Blk.new _ _ _) | (with_reducible refine Blk.new' ?_; (simp; done)) | (with_reducible refine Blk.alloc ?_ _) | (with_reducible refine Blk.drew ?_))); done)))); rintro e w8 ⟨rfl, n7⟩; simp only [List.cons_append, List.nil_append] at n7; have F7 := Lib.hid n7; have G7 := Lib.hid n7.tail; obtain ⟨zlZ, zcZ, zdZ, zeZ, zfZ, zgZ, zhZ⟩ := ZV.facts (show ZV w8 _ from (n7.row _ (List.mem_cons_self ..)).2); have zmZ : w7.heap.size < w8.heap.size + 1 := (by omega); have zoZ : ¬ w8.heap.size = w7.heap.size := (by omega); have zpZ : ¬ w7.heap.size = w8.heap.size := (by omega); have zqZ : ¬ w8.heap.size + 1 = w7.heap.size := (by omega); have zrZ : ¬ w7.heap.size = w8.heap.size + 1 := (by omega); have zsZd : ¬ w7.heap.size = kt := (by omega); have ztZd : ¬ kt = w7.heap.size := (by omega); have zsZb : ¬ w7.heap.size = B1 := (by omega); have ztZb : ¬ B1 = w7.heap.size := (by omega); have zsZa : ¬ w7.heap.size = B0 := (by omega); have ztZa : ¬ B0 = w7.heap.size := (by omega); have HD7 : Hid (∀ p ∈ ([(kt, 26, #[.int .i64 4, .int .i64 tn, .string ⟨#[]⟩]), (B1, 43, #[.int .i64 tn, .int .i64 pn, .int .i64 xk, .int .i64 xn, .string xs]), (B0, 41, #[.int .i64 c, .slice q n cap])] : List (Nat × TypeId × Array Value)), p.1 ≠ w7.heap.size) := Lib.hid (fun p hp => Nat.ne_of_lt (Nat.lt_of_lt_of_le (V.out.row p hp).2.lt (by omega))); clear n7)
                  | ((with_reducible refine Calls.mono (HCC.out _ ?hx [(w7.heap.size + 1, 26, #[.int .i64 0, .int .i64 0, .string ⟨#[]⟩])] _ ?hb ?hk ?hM) ?_); (case hx => ((repeat (first | (with_reducible exact HQ6.out) | (with_reducible refine Ext.alloc ?_ _) | (with_reducible refine Ext.drew ?_))); done)); (case hb => ((repeat (first | (with_reducible exact ZV.blk ZP6.out) | (with_reducible exact Blk.new _ _ _) | (with_reducible refine Blk.new' ?_; (simp; done)) | (with_reducible refine Blk.alloc ?_ _) | (with_reducible refine Blk.drew ?_))); done)); (case hk => (first | omega | (simp; omega))); (case hM => (intro p hp; rw [List.mem_singleton] at hp; subst hp; dsimp only; refine ⟨?_, ?_⟩; (focus omega); (focus ((repeat (first | (with_reducible exact ZV.blk ZP6.out) | (with_reducible exact Blk.new _ _ _) | (with_reducible refine Blk.new' ?_; (simp; done)) | (with_reducible refine Blk.alloc ?_ _) | (with_reducible refine Blk.drew ?_))); done)))); rintro e w8 ⟨rfl, n7⟩; simp only [List.cons_append, List.nil_append] at n7; have F7 := Lib.hid n7; have G7 := Lib.hid n7.tail; obtain ⟨zlZ, zcZ, zdZ, zeZ, zfZ, zgZ, zhZ⟩ := ZV.facts (show ZV w8 _ from (n7.row _ (List.mem_cons_self ..)).2); have zmZ : w7.heap.size + 1 < w8.heap.size + 1 := (by omega); have zoZ : ¬ w8.heap.size = w7.heap.size + 1 := (by omega); have zpZ : ¬ w7.heap.size + 1 = w8.heap.size := (by omega); have zqZ : ¬ w8.heap.size + 1 = w7.heap.size + 1 := (by omega); have zrZ : ¬ w7.heap.size + 1 = w8.heap.size + 1 := (by omega); have zsZd : ¬ w7.heap.size + 1 = kt := (by omega); have ztZd : ¬ kt = w7.heap.size + 1 := (by omega); have zsZb : ¬ w7.heap.size + 1 = B1 := (by omega); have ztZb : ¬ B1 = w7.heap.size + 1 := (by omega); have zsZa : ¬ w7.heap.size + 1 = B0 := (by omega); have ztZa : ¬ B0 = w7.heap.size + 1 := (by omega); have HD7 : Hid (∀ p ∈ ([(kt, 26, #[.int .i64 4, .int .i64 tn, .string ⟨#[]⟩]), (B1, 43, #[.int .i64 tn, .int .i64 pn, .int .i64 xk, .int .i64 xn, .string xs]), (B0, 41, #[.int .i64 c, .slice q n cap])] : List (Nat × TypeId × Array Value)), p.1 ≠ w7.heap.size + 1) := Lib.hid (fun p hp => Nat.ne_of_lt (Nat.lt_of_lt_of_le (V.out.row p hp).2.lt (by omega))); clear n7)
                  | ((with_reducible refine Calls.mono (HCC.out _ ?hx [(w10.heap.size, 26, #[.int .i64 0, .int .i64 0, .string ⟨#[]⟩])] _ ?hb ?hk ?hM) ?_); (case hx => ((repeat (first | (with_reducible exact HQ6.out) | (with_reducible refine Ext.alloc ?_ _) | (with_reducible refine Ext.drew ?_))); done)); (case hb => ((repeat (first | (with_reducible exact ZV.blk ZP6.out) | (with_reducible exact Blk.new _ _ _) | (with_reducible refine Blk.new' ?_; (simp; done)) | (with_reducible refine Blk.alloc ?_ _) | (with_reducible refine Blk.drew ?_))); done)); (case hk => (first | omega | (simp; omega))); (case hM => (intro p hp; rw [List.mem_singleton] at hp; subst hp; dsimp only; refine ⟨?_, ?_⟩; (focus omega); (focus ((repeat (first | (with_reducible exact ZV.blk ZP6.out) | (with_reducible exact Blk.new _ _ _) | (with_reducible refine Blk.new' ?_; (simp; done)) | (with_reducible refine Blk.alloc ?_ _) | (with_reducible refine Blk.drew ?_))); done)))); rintro e w8 ⟨rfl, n7⟩; simp only [List.cons_append, List.nil_append] at n7; have F7 := Lib.hid n7; have G7 := Lib.hid n7.tail; obtain ⟨zlZ, zcZ, zdZ, zeZ, zfZ, zgZ, zhZ⟩ := ZV.facts (show ZV w8 _ from (n7.row _ (List.mem_cons_self ..)).2); have zmZ : w10.heap.size < w8.heap.size + 1 := (by omega); have zoZ : ¬ w8.heap.size = w10.heap.size := (by omega); have zpZ : ¬ w10.heap.size = w8.heap.size := (by omega); have zqZ : ¬ w8.heap.size + 1 = w10.heap.size := (by omega); have zrZ : ¬ w10.heap.size = w8.heap.size + 1 := (by omega); have zsZd : ¬ w10.heap.size = kt := (by omega); have ztZd : ¬ kt = w10.heap.size := (by omega); have zsZb : ¬ w10.heap.size = B1 := (by omega); have ztZb : ¬ B1 = w10.heap.size := (by omega); have zsZa : ¬ w10.heap.size = B0 := (by omega); have ztZa : ¬ B0 = w10.heap.size := (by omega); have HD7 : Hid (∀ p ∈ ([(kt, 26, #[.int .i64 4, .int .i64 tn, .string ⟨#[]⟩]), (B1, 43, #[.int .i64 tn, .int .i64 pn, .int .i64 xk, .int .i64 xn, .string xs]), (B0, 41, #[.int .i64 c, .slice q n cap])] : List (Nat × TypeId × Array Value)), p.1 ≠ w10.heap.size) := Lib.hid (fun p hp => Nat.ne_of_lt (Nat.lt_of_lt_of_le (V.out.row p hp).2.lt (by omega))); clear n7)
                  | ((with_reducible refine Calls.mono (HCC.out _ ?hx [] _ ?hb ?hk ?hM) ?_); (case hx => ((repeat (first | (with_reducible exact HQ6.out) | (with_reducible refine Ext.alloc ?_ _) | (with_reducible refine Ext.drew ?_))); done)); (case hb => ((repeat (first | (with_reducible exact ZV.blk ZP6.out) | (with_reducible exact Blk.new _ _ _) | (with_reducible refine Blk.new' ?_; (simp; done)) | (with_reducible refine Blk.alloc ?_ _) | (with_reducible refine Blk.drew ?_))); done)); (case hk => (first | omega | (simp; omega))); (case hM => (intro p hp; exact (List.not_mem_nil hp).elim)); rintro e w8 ⟨rfl, n7⟩; simp only [List.cons_append, List.nil_append] at n7; have G7 := Lib.hid n7; clear n7)); obtain ⟨vd0, vd1, vd2, vdl, vdm, vdn, vdo, vdp, vdq⟩ := blk3 (G7.out.row (kt, 26, #[.int .i64 4, .int .i64 tn, .string ⟨#[]⟩]) (List.mem_cons_self ..)).2; obtain ⟨vb0, vb1, vb2, vb3, vb4, vbl, vbm, vbn, vbo, vbp, vbq⟩ := blk5 (G7.out.row (B1, 43, #[.int .i64 tn, .int .i64 pn, .int .i64 xk, .int .i64 xn, .string xs]) (List.mem_cons_of_mem _ (List.mem_cons_self ..))).2; obtain ⟨va0, va1, val, vam, van, vao, vap, vaq⟩ := blk2 (G7.out.row (B0, 41, #[.int .i64 c, .slice q n cap]) (List.mem_cons_of_mem _ (List.mem_cons_of_mem _ (List.mem_cons_self ..)))).2))
      all_goals go_wp2_with fail
      all_goals (
        go_meet
        first
          | exact ⟨_, rfl, rfl, rfl, Lib.hid (G7.out.new _ rfl _ _)⟩
          | exact ⟨_, rfl, rfl, rfl, Lib.hid (BK.put F7.out HD7.out _ _ _)⟩)
    case rest =>
    clear xd0 xd1 xd2 xdl xdm xdn xdo xdp xdq xb0 xb1 xb2 xb3 xb4 xbl xbm xbn xbo xbp xbq xa0 xa1 xal xam xan xao xap xaq HCC
    obtain ⟨k15, rfl, rfl, rfl, HM⟩ := hcut
    obtain ⟨wp, rfl⟩ : ∃ wo : World, wo = wc := ⟨_, rfl⟩
    have hrc := rem_call HIA.out HBA.out.fine
    obtain ⟨rw1, rw2, rw3⟩ := hrc
    rw [HGW.out] at rw1
    rw [HGV.out, HBA.out.val] at rw2
    rw [HGH.out] at rw3
    subst rw1
    obtain ⟨rfl, rfl, rfl⟩ : xk = gk ∧ xn = gn ∧ xs = gs := by injection rw2 with h1 h2 h3; exact ⟨h1.symm, h2.symm, h3.symm⟩
    have hof2 := HBA.out.of
    have hfew := HBA.out.few
    have hsame := HBA.out.same
    rw [← rw3] at hof2 hfew hsame
    have HG2L : Hid (G2.tabs.length ≤ 1000002) := Lib.hid (by rw [← HGH.out]; have := callH_len G1 ⟨#[114, 101, 109, 111, 118, 101]⟩ [⟨4, tn, eN⟩, iK pn]; have := HG1L.out; omega)
    replace V := HM
    obtain ⟨kk, hkk⟩ : ∃ l, keysV G2 ⟨4, tn, eN⟩ = l := ⟨_, rfl⟩
    obtain ⟨kl, hkl⟩ : ∃ l, keysV R ⟨4, tn, eN⟩ = l := ⟨_, rfl⟩
    have HKF : Hid (kl.length ≤ 65536) := Lib.hid (by rw [← hkl]; exact keys_few V.out.okB _)
    have HKN : Hid (∀ k ∈ kl, in64 k.n) := Lib.hid (by rw [← hkl]; exact keys_num V.out.okB _)
    have HCA := Lib.hid (fun (X : World) (h : BK w X ga gb G2 R [(k15, 26, #[.int .i64 xk, .int .i64 xn, .string xs]), (kt, 26, #[.int .i64 4, .int .i64 tn, .string ⟨#[]⟩]), (B1, 43, #[.int .i64 tn, .int .i64 pn, .int .i64 xk, .int .i64 xn, .string xs]), (B0, 41, #[.int .i64 c, .slice q n cap])]) => bk_keysA h (by have := HG2L.out; omega) ⟨4, tn, eN⟩)
    have HCB := Lib.hid (fun (X : World) (h : BK w X ga gb G2 R [(k15, 26, #[.int .i64 xk, .int .i64 xn, .string xs]), (kt, 26, #[.int .i64 4, .int .i64 tn, .string ⟨#[]⟩]), (B1, 43, #[.int .i64 tn, .int .i64 pn, .int .i64 xk, .int .i64 xn, .string xs]), (B0, 41, #[.int .i64 c, .slice q n cap])]) => bk_keysB h (by have := HRL.out; omega) ⟨4, tn, eN⟩)
    rw [hkk, hkl] at hfew
    rw [hkk, hkl, HL0.out] at hsame
    rw [hkk] at HCA
    rw [hkl] at HCB
    have HSM := Lib.hid hsame
    have hfewI : (kk.length : Int) ≤ (kl.length : Int) := by omega
    have t1 : decide ((kl.length : Int) < (kk.length : Int)) = false := decide_eq_false (by omega)
    have t2 : decide (kl.length < kk.length) = false := decide_eq_false (by omega)
    clear HM rw2 rw3 hof2 hfew hsame hkk hkl HGV HGW HGH HBA HIA
    obtain ⟨xe0, xe1, xe2, xel, xem, xen, xeo, xep, xeq⟩ := blk3 (V.out.row (k15, 26, #[.int .i64 xk, .int .i64 xn, .string xs]) (List.mem_cons_self ..)).2
    obtain ⟨xd0, xd1, xd2, xdl, xdm, xdn, xdo, xdp, xdq⟩ := blk3 (V.out.row (kt, 26, #[.int .i64 4, .int .i64 tn, .string ⟨#[]⟩]) (List.mem_cons_of_mem _ (List.mem_cons_self ..))).2
    obtain ⟨xb0, xb1, xb2, xb3, xb4, xbl, xbm, xbn, xbo, xbp, xbq⟩ := blk5 (V.out.row (B1, 43, #[.int .i64 tn, .int .i64 pn, .int .i64 xk, .int .i64 xn, .string xs]) (List.mem_cons_of_mem _ (List.mem_cons_of_mem _ (List.mem_cons_self ..)))).2
    obtain ⟨xa0, xa1, xal, xam, xan, xao, xap, xaq⟩ := blk2 (V.out.row (B0, 41, #[.int .i64 c, .slice q n cap]) (List.mem_cons_of_mem _ (List.mem_cons_of_mem _ (List.mem_cons_of_mem _ (List.mem_cons_self ..))))).2
    go_wp2_with fail
    refine (show Calls Tryz.prog 28 #[.pointer (some ⟨ga, 0, none⟩), .agg #[.int .i64 4, .int .i64 tn, .string ⟨#[]⟩]] _ _ from HCA.out _ V.out).mono ?_
    rintro e w11 ⟨qk, ck, rfl, hvk, e11⟩
    replace V := Lib.hid (V.out.ext' e11)
    have HVK := Lib.hid hvk
    clear e11 HCA hvk
    clear xe0 xe1 xe2 xel xem xen xeo xep xeq xd0 xd1 xd2 xdl xdm xdn xdo xdp xdq xb0 xb1 xb2 xb3 xb4 xbl xbm xbn xbo xbp xbq xa0 xa1 xal xam xan xao xap xaq
    obtain ⟨xe0, xe1, xe2, xel, xem, xen, xeo, xep, xeq⟩ := blk3 (V.out.row (k15, 26, #[.int .i64 xk, .int .i64 xn, .string xs]) (List.mem_cons_self ..)).2
    obtain ⟨xd0, xd1, xd2, xdl, xdm, xdn, xdo, xdp, xdq⟩ := blk3 (V.out.row (kt, 26, #[.int .i64 4, .int .i64 tn, .string ⟨#[]⟩]) (List.mem_cons_of_mem _ (List.mem_cons_self ..))).2
    obtain ⟨xb0, xb1, xb2, xb3, xb4, xbl, xbm, xbn, xbo, xbp, xbq⟩ := blk5 (V.out.row (B1, 43, #[.int .i64 tn, .int .i64 pn, .int .i64 xk, .int .i64 xn, .string xs]) (List.mem_cons_of_mem _ (List.mem_cons_of_mem _ (List.mem_cons_self ..)))).2
    obtain ⟨xa0, xa1, xal, xam, xan, xao, xap, xaq⟩ := blk2 (V.out.row (B0, 41, #[.int .i64 c, .slice q n cap]) (List.mem_cons_of_mem _ (List.mem_cons_of_mem _ (List.mem_cons_of_mem _ (List.mem_cons_self ..))))).2
    go_wp2_with fail
    refine (show Calls Tryz.prog 28 #[.pointer (some ⟨gb, 0, none⟩), .agg #[.int .i64 4, .int .i64 tn, .string ⟨#[]⟩]] _ _ from HCB.out _ V.out).mono ?_
    rintro e w12 ⟨ql, cl, rfl, hvl, e12⟩
    replace V := Lib.hid (V.out.ext' e12)
    have HVL := Lib.hid hvl
    replace HVK := Lib.hid (HVK.out.ext e12)
    clear e12 HCB hvl
    clear xe0 xe1 xe2 xel xem xen xeo xep xeq xd0 xd1 xd2 xdl xdm xdn xdo xdp xdq xb0 xb1 xb2 xb3 xb4 xbl xbm xbn xbo xbp xbq xa0 xa1 xal xam xan xao xap xaq
    obtain ⟨xe0, xe1, xe2, xel, xem, xen, xeo, xep, xeq⟩ := blk3 (V.out.row (k15, 26, #[.int .i64 xk, .int .i64 xn, .string xs]) (List.mem_cons_self ..)).2
    obtain ⟨xd0, xd1, xd2, xdl, xdm, xdn, xdo, xdp, xdq⟩ := blk3 (V.out.row (kt, 26, #[.int .i64 4, .int .i64 tn, .string ⟨#[]⟩]) (List.mem_cons_of_mem _ (List.mem_cons_self ..))).2
    obtain ⟨xb0, xb1, xb2, xb3, xb4, xbl, xbm, xbn, xbo, xbp, xbq⟩ := blk5 (V.out.row (B1, 43, #[.int .i64 tn, .int .i64 pn, .int .i64 xk, .int .i64 xn, .string xs]) (List.mem_cons_of_mem _ (List.mem_cons_of_mem _ (List.mem_cons_self ..)))).2
    obtain ⟨xa0, xa1, xal, xam, xan, xao, xap, xaq⟩ := blk2 (V.out.row (B0, 41, #[.int .i64 c, .slice q n cap]) (List.mem_cons_of_mem _ (List.mem_cons_of_mem _ (List.mem_cons_of_mem _ (List.mem_cons_self ..))))).2
    have hgu := fun a b x y W => vl_guard .neq (.inr rfl) a b x y W
    have hv1 : ∀ W, (binOp .neq 26 (vv xk xn xs) (vv xk xn xs)).run Tryz.prog W = .ok (.bool false) W := fun W => by have := vl_neq ⟨xk, xn, xs⟩ ⟨xk, xn, xs⟩ W; simpa using this
    go_wp2_with fail
    clear hgu hv1 t1 t2
    refine (above_any ql kl cl ln0 _ HVL.out (by have := HKF.out; omega)).mono ?_
    rintro e w13 ⟨rfl, rfl⟩
    obtain ⟨ab, hab⟩ : ∃ b, aboveL kl ln0 = b := ⟨_, rfl⟩
    rw [hab]
    have HAB := Lib.hid hab
    clear hab
    cases ab with
    | true =>
      go_wp2_with fail
      refine (works_any _ (HL.out.ext V.out.ext)).mono ?_
      rintro e w99 ⟨rfl, e99⟩
      replace V := Lib.hid (V.out.ext' e99)
      clear e99
      go_wp2_with fail
      go_ret
      exact ⟨rfl, V.out.ext⟩
    | false =>
      obtain ⟨rfl, hget⟩ := HSM.out (fun k hk h => by
        have := aboveL_false HAB.out k hk
        exact this h)
      have HGT := Lib.hid hget
      clear hget HSM
      have HQ := Lib.hid (bk_alike V.out (by have := HG2L.out; omega) (by have := HRL.out; omega) ⟨4, tn, eN⟩ qk ql ck cl kk HVK.out HVL.out HKF.out HKN.out HGT.out)
      go_wp2_with fail
      refine (show Calls Tryz.prog 30 #[.pointer (some ⟨ga, 0, none⟩), .pointer (some ⟨gb, 0, none⟩), .agg #[.int .i64 4, .int .i64 tn, .string ⟨#[]⟩], .slice qk kk.length ck, .slice ql kk.length cl] _ _ from HQ.out).mono ?_
      rintro e w14 ⟨rfl, e14⟩
      replace V := Lib.hid (V.out.ext' e14)
      clear e14
      go_wp2_with fail
      refine (works_any _ (HL.out.ext V.out.ext)).mono ?_
      rintro e w99 ⟨rfl, e99⟩
      replace V := Lib.hid (V.out.ext' e99)
      clear e99
      go_wp2_with fail
      go_ret
      exact ⟨rfl, V.out.ext⟩
end Go.Proofs.YtfagldjhibdfhaaGreatDoor
