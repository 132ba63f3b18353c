/- LibraryReads: the walk. -/
import Derived.Test.YtfagldjhibdfhaaGreatDoorYLvF
namespace Go.Proofs.YtfagldjhibdfhaaGreatDoor
open Go.RowKit
set_option linter.unusedVariables false
set_option linter.unusedSimpArgs false

set_option maxRecDepth 100000 in
set_option maxHeartbeats 8000000 in
theorem law_reads (w : World) (c : Int) (q : Option Addr) (cap : Nat) (ts : List Tb) (x : Vl) (ht : TablesAt w q ts) (hc : in64 c) (hn : ts.length ≤ maxLen) (hi : ∀ T ∈ ts, ItemsIn T) (hx : VIn x) (hL : LLaid w) :
  Calls Tryz.prog 10 #[.agg #[.int .i64 c, .slice q ts.length cap], x.v] w fun e w' => e = .returned (.bool true) ∧ Ext w w' := by
 have mx : maxLen ≤ 9223372036854775807 := by decide
 have HL := Lib.hid hL
 have HC := Lib.hid hc
 have HTS := Lib.hid ht
 have HIN := Lib.hid hi
 have HTL := Lib.hid hn
 obtain ⟨n, hnn⟩ : ∃ n, ts.length = n := ⟨_, rfl⟩
 have HNN := Lib.hid hnn
 rw [hnn] at hn ⊢
 have hnI : (n : Int) ≤ 9223372036854775807 := by omega
 have HX := Lib.hid hx
 obtain ⟨xk, xn, xs⟩ := x
 have hxs : xs.size ≤ maxLen := hx.s
 obtain ⟨m, hm⟩ : ∃ m, xs.size = m := ⟨_, rfl⟩
 rw [hm] at hxs
 have hmI : (m : Int) ≤ 9223372036854775807 := by omega
 clear hL hc ht hi hn hnn mx hx hxs
 have V := Lib.hid (((VB.nil w).new w.heap.size rfl 41 #[.int .i64 c, .slice q n cap]).new (w.heap.size + 1) (by simp) 26 #[.int .i64 xk, .int .i64 xn, .string xs])
 show Calls Tryz.prog 10 #[.agg #[.int .i64 c, .slice q n cap], .agg #[.int .i64 xk, .int .i64 xn, .string xs]] w _
 go_enter Tryz.func10, Tryz.ntmps10
 go_wp2_with fail
 have HF := few_some _ c q cap ts (HTS.out.ext V.out.ext) HTL.out (fun T hT => (HIN.out T hT).1)
 rw [HNN.out] at HF
 refine HF.mono ?_
 clear HF
 rintro e w2 ⟨⟨b, rfl⟩, e2⟩
 replace V := Lib.hid (V.out.ext' e2)
 clear e2
 have hba : Blk w2 (w.heap.size) 41 #[.int .i64 c, .slice q n cap] := V.out.row (w.heap.size, 41, #[.int .i64 c, .slice q n cap]) (by simp)
 have a0 := hba.cell 0
 have a1 := hba.cell 1
 have hla := hba.lt
 simp only [List.getElem?_toArray, List.getElem?_cons_zero, List.getElem?_cons_succ] at a0 a1
 clear hba
 have hma : w.heap.size < w2.heap.size + 1 := by omega
 have hna : w.heap.size < w2.heap.size + 1 + 1 := by omega
 have hbb : Blk w2 (w.heap.size + 1) 26 #[.int .i64 xk, .int .i64 xn, .string xs] := V.out.row (w.heap.size + 1, 26, #[.int .i64 xk, .int .i64 xn, .string xs]) (by simp)
 have b0 := hbb.cell 0
 have b1 := hbb.cell 1
 have b2 := hbb.cell 2
 have hlb := hbb.lt
 simp only [List.getElem?_toArray, List.getElem?_cons_zero, List.getElem?_cons_succ] at b0 b1 b2
 clear hbb
 have hmb : w.heap.size + 1 < w2.heap.size + 1 := by omega
 have hnb : w.heap.size + 1 < w2.heap.size + 1 + 1 := by omega
 cases b with
 | false =>
  go_wp2_with fail
  refine (works_any _ (HL.out.ext V.out.ext)).mono ?_
  rintro e w99 ⟨rfl, e99⟩
  replace V := Lib.hid (V.out.ext' e99)
  clear e99
  go_wp2_with fail
  go_ret
  exact ⟨rfl, V.out.ext⟩
 | true =>
  by_cases hg : (100 : Int) < (n : Int)
  ·have t3 : decide ((100 : Int) < (n : Int)) = true := decide_eq_true hg
   have t4 : decide (100 < n) = true := decide_eq_true (by omega)
   clear hg
   go_wp2_with fail
   refine (works_any _ (HL.out.ext V.out.ext)).mono ?_
   rintro e w99 ⟨rfl, e99⟩
   replace V := Lib.hid (V.out.ext' e99)
   clear e99
   go_wp2_with fail
   go_ret
   exact ⟨rfl, V.out.ext⟩
  have t3 : decide ((100 : Int) < (n : Int)) = false := decide_eq_false hg
  have t4 : decide (100 < n) = false := decide_eq_false (by omega)
  have hn1 : n ≤ 100 := by omega
  clear hg
  by_cases hg : (3000 : Int) < (m : Int)
  ·have t1 : decide ((3000 : Int) < (m : Int)) = true := decide_eq_true hg
   have t2 : decide (3000 < m) = true := decide_eq_true (by omega)
   clear hg
   go_wp2_with fail
   refine (works_any _ (HL.out.ext V.out.ext)).mono ?_
   rintro e w99 ⟨rfl, e99⟩
   replace V := Lib.hid (V.out.ext' e99)
   clear e99
   go_wp2_with fail
   go_ret
   exact ⟨rfl, V.out.ext⟩
  have t1 : decide ((3000 : Int) < (m : Int)) = false := decide_eq_false hg
  have t2 : decide (3000 < m) = false := decide_eq_false (by omega)
  clear hg
  go_wp2_with fail
  clear t1 t2 t3 t4
  replace V := Lib.hid (V.out.new (w2.heap.size) rfl 26 #[.int .i64 xk, .int .i64 xn, .string xs])
  have HQ := asks_any _ (HL.out.ext V.out.ext) c q cap ts (WIn.mk' HC.out (by rw [HNN.out]; omega) HIN.out) (HTS.out.ext V.out.ext) ⟨#[116, 111, 110, 117, 109, 98, 101, 114]⟩ (some ⟨w2.heap.size, 0, none⟩) [⟨xk, xn, xs⟩] 1 (blk_vals (V.out.row (w2.heap.size, 26, #[.int .i64 xk, .int .i64 xn, .string xs]) (by simp)) rfl) (by simp) (n1 HX.out.n) (fun h => by cases h)
  rw [HNN.out] at HQ
  refine (show Calls Tryz.prog 34 #[.agg #[.int .i64 c, .slice q n cap], .string ⟨#[116, 111, 110, 117, 109, 98, 101, 114]⟩, .slice (some ⟨w2.heap.size, 0, none⟩) 1 1] _ _ from HQ).mono ?_
  clear HQ
  rintro e w3 ⟨rfl, e5⟩
  replace V := Lib.hid (V.out.ext' e5)
  clear e5
  clear a0 a1 hla hma hna b0 b1 b2 hlb hmb hnb
  have hba : Blk w3 (w.heap.size) 41 #[.int .i64 c, .slice q n cap] := V.out.row (w.heap.size, 41, #[.int .i64 c, .slice q n cap]) (by simp)
  have a0 := hba.cell 0
  have a1 := hba.cell 1
  have hla := hba.lt
  simp only [List.getElem?_toArray, List.getElem?_cons_zero, List.getElem?_cons_succ] at a0 a1
  clear hba
  have hma : w.heap.size < w3.heap.size + 1 := by omega
  have hna : w.heap.size < w3.heap.size + 1 + 1 := by omega
  go_wp2_with fail
  have HQ := asks_any _ (HL.out.ext V.out.ext) c q cap ts (WIn.mk' HC.out (by rw [HNN.out]; omega) HIN.out) (HTS.out.ext V.out.ext) ⟨#[116, 111, 115, 116, 114, 105, 110, 103]⟩ (some ⟨w2.heap.size, 0, none⟩) [⟨xk, xn, xs⟩] 1 (blk_vals (V.out.row (w2.heap.size, 26, #[.int .i64 xk, .int .i64 xn, .string xs]) (by simp)) rfl) (by simp) (n1 HX.out.n) (fun h => by cases h)
  rw [HNN.out] at HQ
  refine (show Calls Tryz.prog 34 #[.agg #[.int .i64 c, .slice q n cap], .string ⟨#[116, 111, 115, 116, 114, 105, 110, 103]⟩, .slice (some ⟨w2.heap.size, 0, none⟩) 1 1] _ _ from HQ).mono ?_
  clear HQ
  rintro e w4 ⟨rfl, e5⟩
  replace V := Lib.hid (V.out.ext' e5)
  clear e5
  clear a0 a1 hla hma hna
  have hba : Blk w4 (w.heap.size) 41 #[.int .i64 c, .slice q n cap] := V.out.row (w.heap.size, 41, #[.int .i64 c, .slice q n cap]) (by simp)
  have a0 := hba.cell 0
  have a1 := hba.cell 1
  have hla := hba.lt
  simp only [List.getElem?_toArray, List.getElem?_cons_zero, List.getElem?_cons_succ] at a0 a1
  clear hba
  have hma : w.heap.size < w4.heap.size + 1 := by omega
  have hna : w.heap.size < w4.heap.size + 1 + 1 := by omega
  go_wp2_with fail
  have HQ := asks_any _ (HL.out.ext V.out.ext) c q cap ts (WIn.mk' HC.out (by rw [HNN.out]; omega) HIN.out) (HTS.out.ext V.out.ext) ⟨#[116, 121, 112, 101]⟩ (some ⟨w2.heap.size, 0, none⟩) [⟨xk, xn, xs⟩] 1 (blk_vals (V.out.row (w2.heap.size, 26, #[.int .i64 xk, .int .i64 xn, .string xs]) (by simp)) rfl) (by simp) (n1 HX.out.n) (fun h => by cases h)
  rw [HNN.out] at HQ
  refine (show Calls Tryz.prog 34 #[.agg #[.int .i64 c, .slice q n cap], .string ⟨#[116, 121, 112, 101]⟩, .slice (some ⟨w2.heap.size, 0, none⟩) 1 1] _ _ from HQ).mono ?_
  clear HQ
  rintro e w5 ⟨rfl, e5⟩
  replace V := Lib.hid (V.out.ext' e5)
  clear e5
  clear a0 a1 hla hma hna
  have hba : Blk w5 (w.heap.size) 41 #[.int .i64 c, .slice q n cap] := V.out.row (w.heap.size, 41, #[.int .i64 c, .slice q n cap]) (by simp)
  have a0 := hba.cell 0
  have a1 := hba.cell 1
  have hla := hba.lt
  simp only [List.getElem?_toArray, List.getElem?_cons_zero, List.getElem?_cons_succ] at a0 a1
  clear hba
  have hma : w.heap.size < w5.heap.size + 1 := by omega
  have hna : w.heap.size < w5.heap.size + 1 + 1 := by omega
  go_wp2_with fail
  have HQ := asks_any _ (HL.out.ext V.out.ext) c q cap ts (WIn.mk' HC.out (by rw [HNN.out]; omega) HIN.out) (HTS.out.ext V.out.ext) ⟨#[108, 101, 110]⟩ (some ⟨w2.heap.size, 0, none⟩) [⟨xk, xn, xs⟩] 1 (blk_vals (V.out.row (w2.heap.size, 26, #[.int .i64 xk, .int .i64 xn, .string xs]) (by simp)) rfl) (by simp) (n1 HX.out.n) (fun h => by cases h)
  rw [HNN.out] at HQ
  refine (show Calls Tryz.prog 34 #[.agg #[.int .i64 c, .slice q n cap], .string ⟨#[108, 101, 110]⟩, .slice (some ⟨w2.heap.size, 0, none⟩) 1 1] _ _ from HQ).mono ?_
  clear HQ
  rintro e w6 ⟨rfl, e5⟩
  replace V := Lib.hid (V.out.ext' e5)
  clear e5
  clear a0 a1 hla hma hna
  have hba : Blk w6 (w.heap.size) 41 #[.int .i64 c, .slice q n cap] := V.out.row (w.heap.size, 41, #[.int .i64 c, .slice q n cap]) (by simp)
  have a0 := hba.cell 0
  have a1 := hba.cell 1
  have hla := hba.lt
  simp only [List.getElem?_toArray, List.getElem?_cons_zero, List.getElem?_cons_succ] at a0 a1
  clear hba
  have hma : w.heap.size < w6.heap.size + 1 := by omega
  have hna : w.heap.size < w6.heap.size + 1 + 1 := by omega
  go_wp2_with fail
  refine (works_any _ (HL.out.ext V.out.ext)).mono ?_
  rintro e w99 ⟨rfl, e99⟩
  replace V := Lib.hid (V.out.ext' e99)
  clear e99
  go_wp2_with fail
  go_ret
  exact ⟨rfl, V.out.ext⟩
end Go.Proofs.YtfagldjhibdfhaaGreatDoor
