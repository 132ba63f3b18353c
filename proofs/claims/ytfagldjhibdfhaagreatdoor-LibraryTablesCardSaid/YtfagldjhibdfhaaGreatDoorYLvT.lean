/- LibraryTables: the walk. -/
import Derived.Test.YtfagldjhibdfhaaGreatDoorYLvF
namespace Go.Proofs.YtfagldjhibdfhaaGreatDoor
open Go.RowKit
set_option linter.unusedVariables false
set_option linter.unusedSimpArgs false

theorem asksT (w : World) (hL : LLaid w) (c : Int) (q : Option Addr) (cap : Nat) (ts : List Tb) (n : Nat) (hnn : ts.length = n) (hw : WIn c ts) (ht : TablesAt w q ts) (name : ByteArray) (k m : Nat) (cs : Array Value) (l : List Vl) (hb : Blk w k 26 cs) (hcs : cs = (flat l).toArray) (hl : l.length = m) (hm : m ≤ 1000) (hx : ∀ x ∈ l, in64 x.n) :
  Calls Tryz.prog 34 #[.agg #[.int .i64 c, .slice q n cap], .string name, .slice (some ⟨k, 0, none⟩) m m] w fun e w' => e = .returned (.bool true) ∧ Ext w w' := by
 subst hnn hl
 exact asks_any w hL c q cap ts hw ht name (some ⟨k, 0, none⟩) l l.length (blk_vals hb hcs) hm hx (fun h => by cases h)
set_option maxRecDepth 100000 in
set_option maxHeartbeats 8000000 in
theorem law_tables (w : World) (c : Int) (q : Option Addr) (cap : Nat) (ts : List Tb) (tn pn : Int) (x : Vl) (bt : ByteArray) (ht : TablesAt w q ts) (hc : in64 c) (hn : ts.length ≤ maxLen) (hi : ∀ T ∈ ts, ItemsIn T) (htn : in64 tn) (hpn : in64 pn) (hx : VIn x) (hbt : bt.size ≤ maxLen) (hL : LLaid w) :
    Calls Tryz.prog 12 #[.agg #[.int .i64 c, .slice q ts.length cap], .agg #[.int .i64 tn, .int .i64 pn, .int .i64 x.k, .int .i64 x.n, .string x.s], .string bt] w fun e w' => e = .returned (.bool true) ∧ Ext w w' := by
  have mx : maxLen ≤ 9223372036854775807 := by decide
  have HL := Lib.hid hL
  have HC := Lib.hid hc
  have HTS := Lib.hid ht
  have HIN := Lib.hid hi
  have HTL := Lib.hid hn
  obtain ⟨n, hnn⟩ : ∃ n, ts.length = n := ⟨_, rfl⟩
  have HNN := Lib.hid hnn
  rw [hnn] at hn ⊢
  have hnI : (n : Int) ≤ 9223372036854775807 := by omega
  have HX := Lib.hid hx
  have HTN := Lib.hid htn
  have HPN := Lib.hid hpn
  obtain ⟨xk, xn, xs⟩ := x
  obtain ⟨m, hm⟩ : ∃ m, bt.size = m := ⟨_, rfl⟩
  rw [hm] at hbt
  have hmI : (m : Int) ≤ 9223372036854775807 := by omega
  clear hL hc ht hi hn hnn mx hx hbt htn hpn
  have V := Lib.hid (((VB.nil w).new w.heap.size rfl 41 #[.int .i64 c, .slice q n cap]).new (w.heap.size + 1) (by simp) 43 #[.int .i64 tn, .int .i64 pn, .int .i64 xk, .int .i64 xn, .string xs])
  show Calls Tryz.prog 12 #[.agg #[.int .i64 c, .slice q n cap], .agg #[.int .i64 tn, .int .i64 pn, .int .i64 xk, .int .i64 xn, .string xs], .string bt] w _
  go_enter Tryz.func12, Tryz.ntmps12
  go_wp2_with fail
  have HF := few_some _ c q cap ts (HTS.out.ext V.out.ext) HTL.out (fun T hT => (HIN.out T hT).1)
  rw [HNN.out] at HF
  refine HF.mono ?_
  clear HF
  rintro e w2 ⟨⟨b, rfl⟩, e2⟩
  replace V := Lib.hid (V.out.ext' e2)
  clear e2
  have hba : Blk w2 (w.heap.size) 41 #[.int .i64 c, .slice q n cap] := V.out.row (w.heap.size, 41, #[.int .i64 c, .slice q n cap]) (by simp)
  have a0 := hba.cell 0
  have a1 := hba.cell 1
  have hla := hba.lt
  simp only [List.getElem?_toArray, List.getElem?_cons_zero, List.getElem?_cons_succ] at a0 a1
  clear hba
  have hma : w.heap.size < w2.heap.size + 1 := by omega
  have hna : w.heap.size < w2.heap.size + 1 + 1 := by omega
  have hbb : Blk w2 (w.heap.size + 1) 43 #[.int .i64 tn, .int .i64 pn, .int .i64 xk, .int .i64 xn, .string xs] := V.out.row (w.heap.size + 1, 43, #[.int .i64 tn, .int .i64 pn, .int .i64 xk, .int .i64 xn, .string xs]) (by simp)
  have b0 := hbb.cell 0
  have b1 := hbb.cell 1
  have b2 := hbb.cell 2
  have b3 := hbb.cell 3
  have b4 := hbb.cell 4
  have hlb := hbb.lt
  simp only [List.getElem?_toArray, List.getElem?_cons_zero, List.getElem?_cons_succ] at b0 b1 b2 b3 b4
  clear hbb
  have hmb : w.heap.size + 1 < w2.heap.size + 1 := by omega
  have hnb : w.heap.size + 1 < w2.heap.size + 1 + 1 := by omega
  cases b with
  | false =>
    go_wp2_with fail
    refine (works_any _ (HL.out.ext V.out.ext)).mono ?_
    rintro e w99 ⟨rfl, e99⟩
    replace V := Lib.hid (V.out.ext' e99)
    clear e99
    go_wp2_with fail
    go_ret
    exact ⟨rfl, V.out.ext⟩
  | true =>
    by_cases hg : (100 : Int) < (n : Int)
    · have t3 : decide ((100 : Int) < (n : Int)) = true := decide_eq_true hg
      have t4 : decide (100 < n) = true := decide_eq_true (by omega)
      clear hg
      go_wp2_with fail
      refine (works_any _ (HL.out.ext V.out.ext)).mono ?_
      rintro e w99 ⟨rfl, e99⟩
      replace V := Lib.hid (V.out.ext' e99)
      clear e99
      go_wp2_with fail
      go_ret
      exact ⟨rfl, V.out.ext⟩
    have t3 : decide ((100 : Int) < (n : Int)) = false := decide_eq_false hg
    have t4 : decide (100 < n) = false := decide_eq_false (by omega)
    have hn1 : n ≤ 100 := by omega
    clear hg
    go_wp2_with fail
    replace V := Lib.hid (V.out.new (w2.heap.size) rfl 26 #[.int .i64 xk, .int .i64 xn, .string xs])
    refine (size_some (some ⟨w2.heap.size, 0, none⟩) [⟨xk, xn, xs⟩] 1 0 _ (blk_vals (Blk.new _ _ _) rfl) (by simp)).mono ?_
    rintro e w3 ⟨⟨z, rfl⟩, rfl⟩
    clear t3 t4
    by_cases hg : 3000 < z
    · have t1 : decide (3000 < z) = true := decide_eq_true hg
      clear hg
      go_wp2_with fail
      refine (works_any _ (HL.out.ext V.out.ext)).mono ?_
      rintro e w99 ⟨rfl, e99⟩
      replace V := Lib.hid (V.out.ext' e99)
      clear e99
      go_wp2_with fail
      go_ret
      exact ⟨rfl, V.out.ext⟩
    have t1 : decide (3000 < z) = false := decide_eq_false hg
    clear hg
    by_cases hg : (300 : Int) < (m : Int)
    · have t1 : decide ((300 : Int) < (m : Int)) = true := decide_eq_true hg
      have t2 : decide (300 < m) = true := decide_eq_true (by omega)
      clear hg
      go_wp2_with fail
      refine (works_any _ (HL.out.ext V.out.ext)).mono ?_
      rintro e w99 ⟨rfl, e99⟩
      replace V := Lib.hid (V.out.ext' e99)
      clear e99
      go_wp2_with fail
      go_ret
      exact ⟨rfl, V.out.ext⟩
    have t1 : decide ((300 : Int) < (m : Int)) = false := decide_eq_false hg
    have t2 : decide (300 < m) = false := decide_eq_false (by omega)
    clear hg
    go_wp2_with fail
    clear t1 t2
    clear a0 a1 hla hma hna b0 b1 b2 b3 b4 hlb hmb hnb
    obtain ⟨WA, hWA⟩ : ∃ WA, w2.alloc (.cells #[.int .i64 xk, .int .i64 xn, .string xs] 26) = WA := ⟨_, rfl⟩
    rw [hWA] at V ⊢
    clear hWA
    replace V := Lib.hid (VB.mk V.out.ext (fun p hp => V.out.row p (List.mem_cons_of_mem _ hp)) : VB w WA [(w.heap.size + 1, 43, #[.int .i64 tn, .int .i64 pn, .int .i64 xk, .int .i64 xn, .string xs]), (w.heap.size, 41, #[.int .i64 c, .slice q n cap])])
    obtain ⟨B0, hB0⟩ : ∃ B0, w.heap.size = B0 := ⟨_, rfl⟩
    rw [hB0] at V ⊢
    have hwB : w.heap.size ≤ B0 := by omega
    clear hB0
    have hleA : w.heap.size ≤ WA.heap.size := V.out.ext.le
    obtain ⟨B1, hB1⟩ : ∃ B1, B0 + 1 = B1 := ⟨_, rfl⟩
    rw [hB1] at V
    rw [hB1]
    have hwB1 : w.heap.size ≤ B1 := by omega
    have hne01 : ¬ B0 = B1 := by omega
    have hne10 : ¬ B1 = B0 := by omega
    clear hB1
    have hba : Blk WA (B0) 41 #[.int .i64 c, .slice q n cap] := V.out.row (B0, 41, #[.int .i64 c, .slice q n cap]) (by simp)
    have a0 := hba.cell 0
    have a1 := hba.cell 1
    have hla := hba.lt
    simp only [List.getElem?_toArray, List.getElem?_cons_zero, List.getElem?_cons_succ] at a0 a1
    clear hba
    have hma : B0 < WA.heap.size + 1 := by omega
    have hna : B0 < WA.heap.size + 1 + 1 := by omega
    have hbb : Blk WA (B1) 43 #[.int .i64 tn, .int .i64 pn, .int .i64 xk, .int .i64 xn, .string xs] := V.out.row (B1, 43, #[.int .i64 tn, .int .i64 pn, .int .i64 xk, .int .i64 xn, .string xs]) (by simp)
    have b0 := hbb.cell 0
    have b1 := hbb.cell 1
    have b2 := hbb.cell 2
    have b3 := hbb.cell 3
    have b4 := hbb.cell 4
    have hlb := hbb.lt
    simp only [List.getElem?_toArray, List.getElem?_cons_zero, List.getElem?_cons_succ] at b0 b1 b2 b3 b4
    clear hbb
    have hmb : B1 < WA.heap.size + 1 := by omega
    have hnb : B1 < WA.heap.size + 1 + 1 := by omega
    have HWI : Hid (WIn c ts) := Lib.hid (WIn.mk' HC.out (by rw [HNN.out]; omega) HIN.out)
    have hlt0 : B0 < WA.heap.size := hla
    have hlt1 : B1 < WA.heap.size := hlb
    go_upto_region 3 with (fail)
    go_cut [7, 8] (fun s7 s8 wx => ∃ k7 k8 : Nat, s7 = .pointer (some ⟨k7, 0, none⟩) ∧ s8 = .pointer (some ⟨k8, 0, none⟩) ∧ Hid (VB w wx [(k7, 26, #[.int .i64 4, .int .i64 tn, .string ⟨#[]⟩]), (k8, 26, #[.int .i64 2, .int .i64 pn, .string ⟨#[]⟩]), (B1, 43, #[.int .i64 tn, .int .i64 pn, .int .i64 xk, .int .i64 xn, .string xs]), (B0, 41, #[.int .i64 c, .slice q n cap])]))
    case first =>
      have nxA : ¬ WA.heap.size = B1 := by omega
      have nyA : ¬ B1 = WA.heap.size := by omega
      have nzA : ¬ WA.heap.size + 1 = B1 := by omega
      have nuA : ¬ B1 = WA.heap.size + 1 := by omega
      go_region_held3 (fun w' => w'.cell? ⟨B1, 0, none⟩ = some (.int .i64 tn) ∧ w'.cell? ⟨B1, 1, none⟩ = some (.int .i64 pn)) (go_keep)
        (first
          | (go_at_call 26; with_reducible refine Calls.mono (table_any _ _) ?_; rintro e w4 ⟨rfl, ew4⟩; have hq : Ext WA w4 := (by first | (with_reducible exact ew4) | (with_reducible exact (Ext.of_drew ew4)) | (with_reducible exact (Ext.of_alloc ew4)) | (with_reducible exact (Ext.of_drew (Ext.of_alloc ew4))) | (with_reducible exact (Ext.of_alloc (Ext.of_drew ew4))) | (with_reducible exact (Ext.of_alloc (Ext.of_alloc ew4))) | (with_reducible exact (Ext.of_drew (Ext.of_alloc (Ext.of_alloc ew4)))) | (with_reducible exact (Ext.of_alloc (Ext.of_drew (Ext.of_alloc ew4)))) | (with_reducible exact (Ext.of_alloc (Ext.of_alloc (Ext.of_drew ew4))))); have Vw4 := Lib.hid (V.out.ext' hq); have hlew4 : WA.heap.size ≤ w4.heap.size := hq.le; have hbb := Vw4.out.row (B1, 43, #[.int .i64 tn, .int .i64 pn, .int .i64 xk, .int .i64 xn, .string xs]) (List.mem_cons_self ..); have y0 := hbb.cell 0; have y1 := hbb.cell 1; simp only [List.getElem?_toArray, List.getElem?_cons_zero, List.getElem?_cons_succ] at y0 y1; have hlxw4 := hbb.lt; have nxw4 : ¬ w4.heap.size = B1 := (by omega); have nyw4 : ¬ B1 = w4.heap.size := (by omega); have nzw4 : ¬ w4.heap.size + 1 = B1 := (by omega); have nuw4 : ¬ B1 = w4.heap.size + 1 := (by omega); clear hbb; (try (have zz : ZV w4 (WA.heap.size) := (by first | (with_reducible refine ZV.new _ ?_ ew4; (simp; done)) | (with_reducible refine ZV.newd _ ?_ ew4; (simp; done)) | (with_reducible refine ZV.new _ ?_ (Ext.of_alloc ew4); (simp; done)) | (with_reducible refine ZV.newd _ ?_ (Ext.of_alloc ew4); (simp; done)) | (with_reducible refine ZV.new _ ?_ (Ext.of_drew (Ext.of_alloc ew4)); (simp; done)) | (with_reducible refine ZV.newd _ ?_ (Ext.of_drew (Ext.of_alloc ew4)); (simp; done)) | (with_reducible refine ZV.new _ ?_ (Ext.of_alloc (Ext.of_drew ew4)); (simp; done)) | (with_reducible refine ZV.newd _ ?_ (Ext.of_alloc (Ext.of_drew ew4)); (simp; done))); obtain ⟨zlP, zcP, zdP, zeP, zfP, zgP, zhP⟩ := ZV.facts zz; have Zw4P := Lib.hid zz; have zmw4P : WA.heap.size < w4.heap.size + 1 := (by omega); have znw4P : WA.heap.size < w4.heap.size + 1 + 1 := (by omega); have zow4P : ¬ w4.heap.size = WA.heap.size := (by omega); have zpw4P : ¬ WA.heap.size = w4.heap.size := (by omega); have zqw4P : ¬ w4.heap.size + 1 = WA.heap.size := (by omega); have zrw4P : ¬ WA.heap.size = w4.heap.size + 1 := (by omega); have zsw4P : ¬ WA.heap.size = B1 := (by omega); have ztw4P : ¬ B1 = WA.heap.size := (by omega); clear zz)); (try (have zz : ZV w4 (WA.heap.size + 1) := (by first | (with_reducible refine ZV.new _ ?_ ew4; (simp; done)) | (with_reducible refine ZV.newd _ ?_ ew4; (simp; done)) | (with_reducible refine ZV.new _ ?_ (Ext.of_alloc ew4); (simp; done)) | (with_reducible refine ZV.newd _ ?_ (Ext.of_alloc ew4); (simp; done)) | (with_reducible refine ZV.new _ ?_ (Ext.of_drew (Ext.of_alloc ew4)); (simp; done)) | (with_reducible refine ZV.newd _ ?_ (Ext.of_drew (Ext.of_alloc ew4)); (simp; done)) | (with_reducible refine ZV.new _ ?_ (Ext.of_alloc (Ext.of_drew ew4)); (simp; done)) | (with_reducible refine ZV.newd _ ?_ (Ext.of_alloc (Ext.of_drew ew4)); (simp; done))); obtain ⟨zlQ, zcQ, zdQ, zeQ, zfQ, zgQ, zhQ⟩ := ZV.facts zz; have Zw4Q := Lib.hid zz; have zmw4Q : WA.heap.size + 1 < w4.heap.size + 1 := (by omega); have znw4Q : WA.heap.size + 1 < w4.heap.size + 1 + 1 := (by omega); have zow4Q : ¬ w4.heap.size = WA.heap.size + 1 := (by omega); have zpw4Q : ¬ WA.heap.size + 1 = w4.heap.size := (by omega); have zqw4Q : ¬ w4.heap.size + 1 = WA.heap.size + 1 := (by omega); have zrw4Q : ¬ WA.heap.size + 1 = w4.heap.size + 1 := (by omega); have zsw4Q : ¬ WA.heap.size + 1 = B1 := (by omega); have ztw4Q : ¬ B1 = WA.heap.size + 1 := (by omega); (try (have : ¬ WA.heap.size + 1 = WA.heap.size := (by omega); have : ¬ WA.heap.size = WA.heap.size + 1 := (by omega))); clear zz)); clear hq ew4)
          | (go_at_call 17; with_reducible refine Calls.mono (int_any _ _) ?_; rintro e w5 ⟨rfl, ew5⟩; have hq : Ext w4 w5 := (by first | (with_reducible exact ew5) | (with_reducible exact (Ext.of_drew ew5)) | (with_reducible exact (Ext.of_alloc ew5)) | (with_reducible exact (Ext.of_drew (Ext.of_alloc ew5))) | (with_reducible exact (Ext.of_alloc (Ext.of_drew ew5))) | (with_reducible exact (Ext.of_alloc (Ext.of_alloc ew5))) | (with_reducible exact (Ext.of_drew (Ext.of_alloc (Ext.of_alloc ew5)))) | (with_reducible exact (Ext.of_alloc (Ext.of_drew (Ext.of_alloc ew5)))) | (with_reducible exact (Ext.of_alloc (Ext.of_alloc (Ext.of_drew ew5))))); have Vw5 := Lib.hid (Vw4.out.ext' hq); have hlew5 : w4.heap.size ≤ w5.heap.size := hq.le; have hbb := Vw5.out.row (B1, 43, #[.int .i64 tn, .int .i64 pn, .int .i64 xk, .int .i64 xn, .string xs]) (List.mem_cons_self ..); have y0 := hbb.cell 0; have y1 := hbb.cell 1; simp only [List.getElem?_toArray, List.getElem?_cons_zero, List.getElem?_cons_succ] at y0 y1; have hlxw5 := hbb.lt; have nxw5 : ¬ w5.heap.size = B1 := (by omega); have nyw5 : ¬ B1 = w5.heap.size := (by omega); have nzw5 : ¬ w5.heap.size + 1 = B1 := (by omega); have nuw5 : ¬ B1 = w5.heap.size + 1 := (by omega); clear hbb; (try (have zz := ZV.ext (Zw4P.out) hq; obtain ⟨zlP, zcP, zdP, zeP, zfP, zgP, zhP⟩ := ZV.facts zz; have Zw5P := Lib.hid zz; have zmw5P : WA.heap.size < w5.heap.size + 1 := (by omega); have znw5P : WA.heap.size < w5.heap.size + 1 + 1 := (by omega); have zow5P : ¬ w5.heap.size = WA.heap.size := (by omega); have zpw5P : ¬ WA.heap.size = w5.heap.size := (by omega); have zqw5P : ¬ w5.heap.size + 1 = WA.heap.size := (by omega); have zrw5P : ¬ WA.heap.size = w5.heap.size + 1 := (by omega); have zsw5P : ¬ WA.heap.size = B1 := (by omega); have ztw5P : ¬ B1 = WA.heap.size := (by omega); clear zz)); (try (have zz := ZV.ext (Zw4Q.out) hq; obtain ⟨zlQ, zcQ, zdQ, zeQ, zfQ, zgQ, zhQ⟩ := ZV.facts zz; have Zw5Q := Lib.hid zz; have zmw5Q : WA.heap.size + 1 < w5.heap.size + 1 := (by omega); have znw5Q : WA.heap.size + 1 < w5.heap.size + 1 + 1 := (by omega); have zow5Q : ¬ w5.heap.size = WA.heap.size + 1 := (by omega); have zpw5Q : ¬ WA.heap.size + 1 = w5.heap.size := (by omega); have zqw5Q : ¬ w5.heap.size + 1 = WA.heap.size + 1 := (by omega); have zrw5Q : ¬ WA.heap.size + 1 = w5.heap.size + 1 := (by omega); have zsw5Q : ¬ WA.heap.size + 1 = B1 := (by omega); have ztw5Q : ¬ B1 = WA.heap.size + 1 := (by omega); (try (have : ¬ WA.heap.size + 1 = WA.heap.size := (by omega); have : ¬ WA.heap.size = WA.heap.size + 1 := (by omega))); clear zz)); (try (have zz : ZV w5 (w4.heap.size) := (by first | (with_reducible refine ZV.new _ ?_ ew5; (simp; done)) | (with_reducible refine ZV.newd _ ?_ ew5; (simp; done)) | (with_reducible refine ZV.new _ ?_ (Ext.of_alloc ew5); (simp; done)) | (with_reducible refine ZV.newd _ ?_ (Ext.of_alloc ew5); (simp; done)) | (with_reducible refine ZV.new _ ?_ (Ext.of_drew (Ext.of_alloc ew5)); (simp; done)) | (with_reducible refine ZV.newd _ ?_ (Ext.of_drew (Ext.of_alloc ew5)); (simp; done)) | (with_reducible refine ZV.new _ ?_ (Ext.of_alloc (Ext.of_drew ew5)); (simp; done)) | (with_reducible refine ZV.newd _ ?_ (Ext.of_alloc (Ext.of_drew ew5)); (simp; done))); obtain ⟨zlR, zcR, zdR, zeR, zfR, zgR, zhR⟩ := ZV.facts zz; have Zw5R := Lib.hid zz; have zmw5R : w4.heap.size < w5.heap.size + 1 := (by omega); have znw5R : w4.heap.size < w5.heap.size + 1 + 1 := (by omega); have zow5R : ¬ w5.heap.size = w4.heap.size := (by omega); have zpw5R : ¬ w4.heap.size = w5.heap.size := (by omega); have zqw5R : ¬ w5.heap.size + 1 = w4.heap.size := (by omega); have zrw5R : ¬ w4.heap.size = w5.heap.size + 1 := (by omega); have zsw5R : ¬ w4.heap.size = B1 := (by omega); have ztw5R : ¬ B1 = w4.heap.size := (by omega); (try (have : ¬ w4.heap.size = WA.heap.size := (by omega); have : ¬ WA.heap.size = w4.heap.size := (by omega))); (try (have : ¬ w4.heap.size = WA.heap.size + 1 := (by omega); have : ¬ WA.heap.size + 1 = w4.heap.size := (by omega))); clear zz)); (try (have zz : ZV w5 (w4.heap.size + 1) := (by first | (with_reducible refine ZV.new _ ?_ ew5; (simp; done)) | (with_reducible refine ZV.newd _ ?_ ew5; (simp; done)) | (with_reducible refine ZV.new _ ?_ (Ext.of_alloc ew5); (simp; done)) | (with_reducible refine ZV.newd _ ?_ (Ext.of_alloc ew5); (simp; done)) | (with_reducible refine ZV.new _ ?_ (Ext.of_drew (Ext.of_alloc ew5)); (simp; done)) | (with_reducible refine ZV.newd _ ?_ (Ext.of_drew (Ext.of_alloc ew5)); (simp; done)) | (with_reducible refine ZV.new _ ?_ (Ext.of_alloc (Ext.of_drew ew5)); (simp; done)) | (with_reducible refine ZV.newd _ ?_ (Ext.of_alloc (Ext.of_drew ew5)); (simp; done))); obtain ⟨zlS, zcS, zdS, zeS, zfS, zgS, zhS⟩ := ZV.facts zz; have Zw5S := Lib.hid zz; have zmw5S : w4.heap.size + 1 < w5.heap.size + 1 := (by omega); have znw5S : w4.heap.size + 1 < w5.heap.size + 1 + 1 := (by omega); have zow5S : ¬ w5.heap.size = w4.heap.size + 1 := (by omega); have zpw5S : ¬ w4.heap.size + 1 = w5.heap.size := (by omega); have zqw5S : ¬ w5.heap.size + 1 = w4.heap.size + 1 := (by omega); have zrw5S : ¬ w4.heap.size + 1 = w5.heap.size + 1 := (by omega); have zsw5S : ¬ w4.heap.size + 1 = B1 := (by omega); have ztw5S : ¬ B1 = w4.heap.size + 1 := (by omega); (try (have : ¬ w4.heap.size + 1 = w4.heap.size := (by omega); have : ¬ w4.heap.size = w4.heap.size + 1 := (by omega))); clear zz)); clear hq ew5))
      all_goals go_wp2_with fail
      all_goals (
        go_meet
        refine ⟨_, _, rfl, rfl, Lib.hid ⟨?_, fun p hp => ?_⟩⟩
        focus (repeat (first | (with_reducible exact Vw5.out.ext) | (with_reducible refine Ext.alloc ?_ _) | (with_reducible refine Ext.put3 ?_ ?hk _ _ _; (case hk => omega))))
        simp only [List.mem_cons, List.not_mem_nil, or_false] at hp
        rcases hp with rfl | rfl | rfl | rfl
        all_goals (
          dsimp only
          repeat (first | (with_reducible exact ZV.blk Zw5P.out) | (with_reducible exact ZV.blk Zw5Q.out) | (with_reducible exact ZV.blk Zw5R.out) | (with_reducible exact ZV.blk Zw5S.out) | (with_reducible exact Vw5.out.row _ (List.mem_cons_self ..)) | (with_reducible exact Vw5.out.row _ (List.mem_cons_of_mem _ (List.mem_cons_self ..))) | (with_reducible exact Blk.new _ _ _) | (with_reducible refine Blk.new' ?_; (simp; done)) | (with_reducible refine Blk.put3 (x := .int .i64 0) (y := .int .i64 0) (z := .string ⟨#[]⟩) ?_ _ _ _) | (with_reducible refine Blk.far3 ?_ ?hk _ _ _; (case hk => omega)) | (with_reducible refine Blk.alloc ?_ _))))
    case rest =>
      obtain ⟨k7, k8, rfl, rfl, HVB⟩ := hcut
      obtain ⟨wo, rfl⟩ : ∃ wo : World, wo = wc := ⟨_, rfl⟩
      clear hleA hla hma hna hlb hmb hnb hlt0 hlt1 a0 a1 b0 b1 b2 b3 b4
      replace V := HVB
      clear HVB
      obtain ⟨xd0, xd1, xd2, xdl, xdm, xdn, xdo, xdp, xdq⟩ := blk3 (V.out.row (k7, 26, #[.int .i64 4, .int .i64 tn, .string ⟨#[]⟩]) (List.mem_cons_self ..))
      obtain ⟨xf0, xf1, xf2, xfl, xfm, xfn, xfo, xfp, xfq⟩ := blk3 (V.out.row (k8, 26, #[.int .i64 2, .int .i64 pn, .string ⟨#[]⟩]) (List.mem_cons_of_mem _ (List.mem_cons_self ..)))
      obtain ⟨xb0, xb1, xb2, xb3, xb4, xbl, xbm, xbn, xbo, xbp, xbq⟩ := blk5 (V.out.row (B1, 43, #[.int .i64 tn, .int .i64 pn, .int .i64 xk, .int .i64 xn, .string xs]) (List.mem_cons_of_mem _ (List.mem_cons_of_mem _ (List.mem_cons_self ..))))
      obtain ⟨xa0, xa1, xal, xam, xan, xao, xap, xaq⟩ := blk2 (V.out.row (B0, 41, #[.int .i64 c, .slice q n cap]) (List.mem_cons_of_mem _ (List.mem_cons_of_mem _ (List.mem_cons_of_mem _ (List.mem_cons_self ..)))))
      go_wp2_with fail
      go_region_held3 (fun w' => w'.cell? ⟨k7, 0, none⟩ = some (.int .i64 4) ∧ w'.cell? ⟨k7, 1, none⟩ = some (.int .i64 tn) ∧ w'.cell? ⟨k7, 2, none⟩ = some (.string ⟨#[]⟩) ∧ w'.cell? ⟨k8, 0, none⟩ = some (.int .i64 2) ∧ w'.cell? ⟨k8, 1, none⟩ = some (.int .i64 pn) ∧ w'.cell? ⟨k8, 2, none⟩ = some (.string ⟨#[]⟩) ∧ w'.cell? ⟨B1, 2, none⟩ = some (.int .i64 xk) ∧ w'.cell? ⟨B1, 3, none⟩ = some (.int .i64 xn) ∧ w'.cell? ⟨B1, 4, none⟩ = some (.string xs) ∧ w'.cell? ⟨B0, 0, none⟩ = some (.int .i64 c) ∧ w'.cell? ⟨B0, 1, none⟩ = some (.slice q n cap)) (go_keep)
        (first
              | (go_at_call 16; with_reducible refine Calls.mono (text_any _ _) ?_; rintro e w6 ⟨rfl, e6⟩; have hq := (by show Ext wo w6; first | (with_reducible exact e6) | (with_reducible exact (Ext.of_drew e6)) | (with_reducible exact (Ext.of_alloc e6)) | (with_reducible exact (Ext.of_drew (Ext.of_alloc e6))) | (with_reducible exact (Ext.of_alloc (Ext.of_drew e6))) | (with_reducible exact (Ext.of_alloc (Ext.of_alloc e6))) | (with_reducible exact (Ext.of_drew (Ext.of_alloc (Ext.of_alloc e6)))) | (with_reducible exact (Ext.of_alloc (Ext.of_drew (Ext.of_alloc e6)))) | (with_reducible exact (Ext.of_alloc (Ext.of_alloc (Ext.of_drew e6))))); replace V := Lib.hid (V.out.ext' hq); clear hq e6; obtain ⟨yd0, yd1, yd2, ydl, ydm, ydn, ydo, ydp, ydq⟩ := blk3 (V.out.row (k7, 26, #[.int .i64 4, .int .i64 tn, .string ⟨#[]⟩]) (List.mem_cons_self ..)); obtain ⟨yf0, yf1, yf2, yfl, yfm, yfn, yfo, yfp, yfq⟩ := blk3 (V.out.row (k8, 26, #[.int .i64 2, .int .i64 pn, .string ⟨#[]⟩]) (List.mem_cons_of_mem _ (List.mem_cons_self ..))); obtain ⟨yb0, yb1, yb2, yb3, yb4, ybl, ybm, ybn, ybo, ybp, ybq⟩ := blk5 (V.out.row (B1, 43, #[.int .i64 tn, .int .i64 pn, .int .i64 xk, .int .i64 xn, .string xs]) (List.mem_cons_of_mem _ (List.mem_cons_of_mem _ (List.mem_cons_self ..)))); obtain ⟨ya0, ya1, yal, yam, yan, yao, yap, yaq⟩ := blk2 (V.out.row (B0, 41, #[.int .i64 c, .slice q n cap]) (List.mem_cons_of_mem _ (List.mem_cons_of_mem _ (List.mem_cons_of_mem _ (List.mem_cons_self ..))))))
              | (go_at_call 34; (first
                  | (with_reducible refine Calls.mono (asksT _ (HL.out.ext (V.out.ext.alloc _)) c q cap ts _ HNN.out HWI.out (HTS.out.ext (V.out.ext.alloc _)) ⟨#[99, 111, 110, 99, 97, 116]⟩ _ 2 #[.int .i64 4, .int .i64 tn, .string ⟨#[]⟩, .int .i64 3, .int .i64 0, .string bt] [⟨4, tn, ⟨#[]⟩⟩, ⟨3, 0, bt⟩] (Blk.new _ _ _) rfl rfl (by decide) (n2 HTN.out in64_0)) ?_)
                  | (with_reducible refine Calls.mono (asksT _ (HL.out.ext (V.out.ext.alloc _)) c q cap ts _ HNN.out HWI.out (HTS.out.ext (V.out.ext.alloc _)) ⟨#[107, 101, 121, 115]⟩ _ 1 #[.int .i64 4, .int .i64 tn, .string ⟨#[]⟩] [⟨4, tn, ⟨#[]⟩⟩] (Blk.new _ _ _) rfl rfl (by decide) (n1 HTN.out)) ?_)
                  | (with_reducible refine Calls.mono (asksT _ (HL.out.ext (V.out.ext.alloc _)) c q cap ts _ HNN.out HWI.out (HTS.out.ext (V.out.ext.alloc _)) ⟨#[105, 110, 115, 101, 114, 116]⟩ _ 2 #[.int .i64 4, .int .i64 tn, .string ⟨#[]⟩, .int .i64 xk, .int .i64 xn, .string xs] [⟨4, tn, ⟨#[]⟩⟩, ⟨xk, xn, xs⟩] (Blk.new _ _ _) rfl rfl (by decide) (n2 HTN.out HX.out.n)) ?_)
                  | (with_reducible refine Calls.mono (asksT _ (HL.out.ext (V.out.ext.alloc _)) c q cap ts _ HNN.out HWI.out (HTS.out.ext (V.out.ext.alloc _)) ⟨#[105, 110, 115, 101, 114, 116]⟩ _ 3 #[.int .i64 4, .int .i64 tn, .string ⟨#[]⟩, .int .i64 2, .int .i64 pn, .string ⟨#[]⟩, .int .i64 xk, .int .i64 xn, .string xs] [⟨4, tn, ⟨#[]⟩⟩, ⟨2, pn, ⟨#[]⟩⟩, ⟨xk, xn, xs⟩] (Blk.new _ _ _) rfl rfl (by decide) (n3 HTN.out HPN.out HX.out.n)) ?_)
                  | (with_reducible refine Calls.mono (asksT _ (HL.out.ext (V.out.ext.alloc _)) c q cap ts _ HNN.out HWI.out (HTS.out.ext (V.out.ext.alloc _)) ⟨#[114, 101, 109, 111, 118, 101]⟩ _ 1 #[.int .i64 4, .int .i64 tn, .string ⟨#[]⟩] [⟨4, tn, ⟨#[]⟩⟩] (Blk.new _ _ _) rfl rfl (by decide) (n1 HTN.out)) ?_)
                  | (with_reducible refine Calls.mono (asksT _ (HL.out.ext (V.out.ext.alloc _)) c q cap ts _ HNN.out HWI.out (HTS.out.ext (V.out.ext.alloc _)) ⟨#[114, 101, 109, 111, 118, 101]⟩ _ 2 #[.int .i64 4, .int .i64 tn, .string ⟨#[]⟩, .int .i64 2, .int .i64 pn, .string ⟨#[]⟩] [⟨4, tn, ⟨#[]⟩⟩, ⟨2, pn, ⟨#[]⟩⟩] (Blk.new _ _ _) rfl rfl (by decide) (n2 HTN.out HPN.out)) ?_)); rintro e w6 ⟨rfl, e6⟩; replace V := Lib.hid (V.out.ext' (((Ext.refl _).alloc _).trans e6)); clear e6; obtain ⟨yd0, yd1, yd2, ydl, ydm, ydn, ydo, ydp, ydq⟩ := blk3 (V.out.row (k7, 26, #[.int .i64 4, .int .i64 tn, .string ⟨#[]⟩]) (List.mem_cons_self ..)); obtain ⟨yf0, yf1, yf2, yfl, yfm, yfn, yfo, yfp, yfq⟩ := blk3 (V.out.row (k8, 26, #[.int .i64 2, .int .i64 pn, .string ⟨#[]⟩]) (List.mem_cons_of_mem _ (List.mem_cons_self ..))); obtain ⟨yb0, yb1, yb2, yb3, yb4, ybl, ybm, ybn, ybo, ybp, ybq⟩ := blk5 (V.out.row (B1, 43, #[.int .i64 tn, .int .i64 pn, .int .i64 xk, .int .i64 xn, .string xs]) (List.mem_cons_of_mem _ (List.mem_cons_of_mem _ (List.mem_cons_self ..)))); obtain ⟨ya0, ya1, yal, yam, yan, yao, yap, yaq⟩ := blk2 (V.out.row (B0, 41, #[.int .i64 c, .slice q n cap]) (List.mem_cons_of_mem _ (List.mem_cons_of_mem _ (List.mem_cons_of_mem _ (List.mem_cons_self ..))))))
              | (go_at_call 20; with_reducible refine Calls.mono (works_any _ (HL.out.ext V.out.ext)) ?_; rintro e w6 ⟨rfl, e6⟩; replace V := Lib.hid (V.out.ext' e6); clear e6; obtain ⟨yd0, yd1, yd2, ydl, ydm, ydn, ydo, ydp, ydq⟩ := blk3 (V.out.row (k7, 26, #[.int .i64 4, .int .i64 tn, .string ⟨#[]⟩]) (List.mem_cons_self ..)); obtain ⟨yf0, yf1, yf2, yfl, yfm, yfn, yfo, yfp, yfq⟩ := blk3 (V.out.row (k8, 26, #[.int .i64 2, .int .i64 pn, .string ⟨#[]⟩]) (List.mem_cons_of_mem _ (List.mem_cons_self ..))); obtain ⟨yb0, yb1, yb2, yb3, yb4, ybl, ybm, ybn, ybo, ybp, ybq⟩ := blk5 (V.out.row (B1, 43, #[.int .i64 tn, .int .i64 pn, .int .i64 xk, .int .i64 xn, .string xs]) (List.mem_cons_of_mem _ (List.mem_cons_of_mem _ (List.mem_cons_self ..)))); obtain ⟨ya0, ya1, yal, yam, yan, yao, yap, yaq⟩ := blk2 (V.out.row (B0, 41, #[.int .i64 c, .slice q n cap]) (List.mem_cons_of_mem _ (List.mem_cons_of_mem _ (List.mem_cons_of_mem _ (List.mem_cons_self ..)))))))
      all_goals go_wp2_with fail
      all_goals (
        go_ret
        exact ⟨rfl, V.out.ext⟩)
end Go.Proofs.YtfagldjhibdfhaaGreatDoor
