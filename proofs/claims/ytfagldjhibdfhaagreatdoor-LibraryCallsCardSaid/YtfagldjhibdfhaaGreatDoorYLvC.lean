/- LibraryCalls: the walk. -/
import Derived.Test.YtfagldjhibdfhaaGreatDoorYLvF
namespace Go.Proofs.YtfagldjhibdfhaaGreatDoor
open Go.RowKit
set_option linter.unusedVariables false
set_option linter.unusedSimpArgs false

set_option maxRecDepth 100000 in
set_option maxHeartbeats 8000000 in
theorem law_calls (w : World) (c : Int) (q : Option Addr) (cap : Nat) (ts : List Tb) (name : ByteArray) (qa : Option Addr) (l : List Vl) (ca : Nat) (ht : TablesAt w q ts) (hc : in64 c) (hn : ts.length ≤ maxLen) (hi : ∀ T ∈ ts, ItemsIn T) (hl : ValsAt w qa l) (hln : l.length ≤ maxLen) (hv : ∀ x ∈ l, VIn x) (hqa : qa = none → ca = 0 ∧ l = []) (hL : LLaid w) :
  Calls Tryz.prog 13 #[.agg #[.int .i64 c, .slice q ts.length cap], .string name, .slice qa l.length ca] w fun e w' => e = .returned (.bool true) ∧ Ext w w' := by
 have mx : maxLen ≤ 9223372036854775807 := by decide
 have HL := Lib.hid hL
 have HC := Lib.hid hc
 have HTS := Lib.hid ht
 have HIN := Lib.hid hi
 have HTL := Lib.hid hn
 obtain ⟨n, hnn⟩ : ∃ n, ts.length = n := ⟨_, rfl⟩
 have HNN := Lib.hid hnn
 rw [hnn] at hn ⊢
 have hnI : (n : Int) ≤ 9223372036854775807 := by omega
 have HV := Lib.hid hl
 have HVN := Lib.hid hv
 have HQA := Lib.hid hqa
 have HS : Hid (∀ x ∈ l, x.s.size ≤ 9223372036854775807) := Lib.hid (fun x hx => Nat.le_trans (hv x hx).s mx)
 obtain ⟨m, hm⟩ : ∃ m, l.length = m := ⟨_, rfl⟩
 have HM := Lib.hid hm
 rw [hm] at hln ⊢
 have hmI : (m : Int) ≤ 9223372036854775807 := by omega
 clear hL hc ht hi hn hnn mx hl hv hqa hm
 have V := Lib.hid ((VB.nil w).new w.heap.size rfl 41 #[.int .i64 c, .slice q n cap])
 go_enter Tryz.func13, Tryz.ntmps13
 go_wp2_with fail
 have HF := few_some _ c q cap ts (HTS.out.ext V.out.ext) HTL.out (fun T hT => (HIN.out T hT).1)
 rw [HNN.out] at HF
 refine HF.mono ?_
 clear HF
 rintro e w2 ⟨⟨b, rfl⟩, e2⟩
 replace V := Lib.hid (V.out.ext' e2)
 clear e2
 have hba : Blk w2 (w.heap.size) 41 #[.int .i64 c, .slice q n cap] := V.out.row (w.heap.size, 41, #[.int .i64 c, .slice q n cap]) (by simp)
 have a0 := hba.cell 0
 have a1 := hba.cell 1
 have hla := hba.lt
 simp only [List.getElem?_toArray, List.getElem?_cons_zero, List.getElem?_cons_succ] at a0 a1
 clear hba
 have hma : w.heap.size < w2.heap.size + 1 := by omega
 have hna : w.heap.size < w2.heap.size + 1 + 1 := by omega
 cases b with
 | false =>
  go_wp2_with fail
  refine (works_any _ (HL.out.ext V.out.ext)).mono ?_
  rintro e w99 ⟨rfl, e99⟩
  replace V := Lib.hid (V.out.ext' e99)
  clear e99
  go_wp2_with fail
  go_ret
  exact ⟨rfl, V.out.ext⟩
 | true =>
  by_cases hg : (300 : Int) < (m : Int)
  ·have t1 : decide ((300 : Int) < (m : Int)) = true := decide_eq_true hg
   have t2 : decide (300 < m) = true := decide_eq_true (by omega)
   clear hg
   go_wp2_with fail
   refine (works_any _ (HL.out.ext V.out.ext)).mono ?_
   rintro e w99 ⟨rfl, e99⟩
   replace V := Lib.hid (V.out.ext' e99)
   clear e99
   go_wp2_with fail
   go_ret
   exact ⟨rfl, V.out.ext⟩
  have t1 : decide ((300 : Int) < (m : Int)) = false := decide_eq_false hg
  have t2 : decide (300 < m) = false := decide_eq_false (by omega)
  have hm3 : m ≤ 300 := by omega
  go_wp2_with fail
  have HH := size_some qa l ca 0 w2 (HV.out.ext V.out.ext) (by rw [HM.out]; omega)
  rw [HM.out] at HH
  refine HH.mono ?_
  clear HH
  rintro e w3 ⟨⟨z, rfl⟩, rfl⟩
  clear t1 t2 hg
  by_cases hg : 3000 < z
  ·have t1 : decide (3000 < z) = true := decide_eq_true hg
   clear hg
   go_wp2_with fail
   refine (works_any _ (HL.out.ext V.out.ext)).mono ?_
   rintro e w99 ⟨rfl, e99⟩
   replace V := Lib.hid (V.out.ext' e99)
   clear e99
   go_wp2_with fail
   go_ret
   exact ⟨rfl, V.out.ext⟩
  have t1 : decide (3000 < z) = false := decide_eq_false hg
  clear hg
  by_cases hg : (100 : Int) < (n : Int)
  ·have t3 : decide ((100 : Int) < (n : Int)) = true := decide_eq_true hg
   have t4 : decide (100 < n) = true := decide_eq_true (by omega)
   clear hg
   go_wp2_with fail
   refine (works_any _ (HL.out.ext V.out.ext)).mono ?_
   rintro e w99 ⟨rfl, e99⟩
   replace V := Lib.hid (V.out.ext' e99)
   clear e99
   go_wp2_with fail
   go_ret
   exact ⟨rfl, V.out.ext⟩
  have t3 : decide ((100 : Int) < (n : Int)) = false := decide_eq_false hg
  have t4 : decide (100 < n) = false := decide_eq_false (by omega)
  have hn1 : n ≤ 100 := by omega
  go_wp2_with fail
  have HH := heavy_some name qa l ca _ (HV.out.ext V.out.ext) HS.out
  rw [HM.out] at HH
  refine HH.mono ?_
  clear HH
  rintro e w4 ⟨⟨b, rfl⟩, e4⟩
  replace V := Lib.hid (V.out.ext' e4)
  clear e4 t1 t3 t4 hg
  clear a0 a1 hla hma hna
  have hba : Blk w4 (w.heap.size) 41 #[.int .i64 c, .slice q n cap] := V.out.row (w.heap.size, 41, #[.int .i64 c, .slice q n cap]) (by simp)
  have a0 := hba.cell 0
  have a1 := hba.cell 1
  have hla := hba.lt
  simp only [List.getElem?_toArray, List.getElem?_cons_zero, List.getElem?_cons_succ] at a0 a1
  clear hba
  have hma : w.heap.size < w4.heap.size + 1 := by omega
  have hna : w.heap.size < w4.heap.size + 1 + 1 := by omega
  cases b with
  | true =>
   go_wp2_with fail
   refine (works_any _ (HL.out.ext V.out.ext)).mono ?_
   rintro e w99 ⟨rfl, e99⟩
   replace V := Lib.hid (V.out.ext' e99)
   clear e99
   go_wp2_with fail
   go_ret
   exact ⟨rfl, V.out.ext⟩
  | false =>
   go_wp2_with fail
   have HQ := asks_any _ (HL.out.ext V.out.ext) c q cap ts (WIn.mk' HC.out (by rw [HNN.out]; omega) HIN.out) (HTS.out.ext V.out.ext) name qa l ca (HV.out.ext V.out.ext) (by rw [HM.out]; omega) (fun x hx => (HVN.out x hx).n) HQA.out
   rw [HNN.out, HM.out] at HQ
   refine HQ.mono ?_
   clear HQ
   rintro e w5 ⟨rfl, e5⟩
   replace V := Lib.hid (V.out.ext' e5)
   clear e5
   go_wp2_with fail
   refine (works_any _ (HL.out.ext V.out.ext)).mono ?_
   rintro e w99 ⟨rfl, e99⟩
   replace V := Lib.hid (V.out.ext' e99)
   clear e99
   go_wp2_with fail
   go_ret
   exact ⟨rfl, V.out.ext⟩
end Go.Proofs.YtfagldjhibdfhaaGreatDoor
