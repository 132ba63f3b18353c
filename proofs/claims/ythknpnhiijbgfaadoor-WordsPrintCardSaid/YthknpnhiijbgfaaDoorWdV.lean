/- Words: the word that stands at a place, in the document. -/
import Derived.Test.YthknpnhiijbgfaaDoorWdS
import Derived.Test.YthknpnhiijbgfaaDoorWdT
import Derived.Test.YthknpnhiijbgfaaDoorWdU
import Derived.Deep.CutBlock
import Derived.Deep.CutRange
import Derived.Deep.DeepCutAuto
namespace Go.Proofs.YthknpnhiijbgfaaDoor
open Go.RowKit
set_option linter.unusedVariables false
set_option linter.unusedSimpArgs false

def rwrdV (a : Nat) : Option (Wd × Nat) → Value
  | none => .tuple #[wdV 0 0 0 ⟨#[]⟩, .int .i64 0]
  | some (x, n) => .tuple #[wdV x.k x.n (a : Int) ⟨x.t.toArray⟩, .int .i64 ((a + n : Nat) : Int)]
theorem drop_lt {l t : List UInt8} {a : Nat} {c : UInt8} (h : l.drop a = c :: t) : a < l.length := by
  rcases Nat.lt_or_ge a l.length with h1 | h1
  · exact h1
  · rw [List.drop_eq_nil_of_le h1] at h; cases h
theorem drop_get {l t : List UInt8} {a : Nat} {c : UInt8} (h : l.drop a = c :: t) : l[a]'(drop_lt h) = c := by
  have h2 := List.drop_eq_getElem_cons (drop_lt h)
  rw [h] at h2
  injection h2 with h3 h4
  exact h3.symm
theorem drewN_add (w : World) (i j : Nat) : (w.drewN i).drewN j = w.drewN (i + j) := by simp [World.drewN, Nat.add_assoc]
theorem take_drop_snoc {l : List UInt8} {a k : Nat} (h1 : a ≤ k) (h2 : k < l.length) : (l.drop a).take (k + 1 - a) = (l.drop a).take (k - a) ++ [l[k]] := by
  have e : k + 1 - a = (k - a) + 1 := by omega
  rw [e, List.take_succ_eq_append_getElem (by rw [List.length_drop]; omega)]
  congr 2
  rw [List.getElem_drop]
  congr 1
  omega
set_option maxRecDepth 100000 in
set_option maxHeartbeats 4000000 in
theorem rword_let_any (w : World) (s : ByteArray) (a : Nat) (c : UInt8) (t : List UInt8) (hl : s.data.toList.drop a = c :: t) (hmax : s.size ≤ 140737488355000) (h0 : 0 < runP (c :: t)) (hlet : letB c = true) :
    Calls Tryd.prog 23 #[.string s, .int .i64 (a : Int)] w fun e w' => e = .returned (rwrdV a (wordP (c :: t))) ∧ Ext w w' := by
  obtain ⟨n, hn⟩ : ∃ n, s.size = n := ⟨_, rfl⟩
  obtain ⟨l, hL⟩ : ∃ l, s.data.toList = l := ⟨_, rfl⟩
  have hll : l.length = n := by rw [← hL]; exact hn
  rw [hL] at hl
  have han : a < n := by have := drop_lt hl; omega
  have hsa : a < s.size := by omega
  have hca : s[a]'hsa = c := by rw [← str_get s a hsa, get_of hL]; exact drop_get hl
  obtain ⟨m, hm⟩ : ∃ m, runP (c :: t) = m := ⟨_, rfl⟩
  have hmn : a + m ≤ n := by
    have h1 := run_len (c :: t)
    have h2 : (c :: t).length = n - a := by rw [← hl, List.length_drop, hll]
    omega
  have HL := Lib.hid hL
  have HLL := Lib.hid hll
  have HD := Lib.hid hl
  have HM := Lib.hid hm
  have hnd : digB c = false := by
    cases h : digB c with
    | false => rfl
    | true => rw [(dig_let h).1] at hlet; cases hlet
  have HND := Lib.hid hnd
  have HW : Hid (wordP (c :: t) = if keyB ((c :: t).take m) = true then some (⟨1, (c :: t).take m, 0, 0⟩, m) else if nameP ((c :: t).take m) = true then some (⟨0, (c :: t).take m, 0, 0⟩, m) else none) := Lib.hid (by
    unfold wordP; rw [hm, if_pos (by omega), if_pos (show headB letB (c :: t) = true from hlet)])
  have hm0 : 0 < m := by omega
  have hex : (s.extract a (a + m)).data.toList = (c :: t).take m := by rw [Lib.extract_data, hL, hl]; congr 1; omega
  have HX := Lib.hid hex
  have HLT := Lib.hid hlet
  have dm : decide ((a : Int) < (a : Int) + (m : Int)) = true := decide_eq_true (by omega)
  have cas : ((a : Int) + (m : Int)) = ((a + m : Nat) : Int) := by omega
  have CAS := Lib.hid cas
  clear hL hl hm hnd hex hlet h0 cas
  go_enter Tryd.func23, Tryd.ntmps23
  go_upto_block 0 with (fail)
  obtain ⟨W0, hW0⟩ : ∃ W0, w.alloc (.cells #[.int .i64 0, .string ⟨#[]⟩, .int .i64 0, .int .i64 0] 31) = W0 := ⟨_, rfl⟩
  have HE0 : Hid (Ext w W0) := Lib.hid (by rw [← hW0]; exact (Ext.refl w).alloc _)
  have b0 : Hid (Blk W0 w.heap.size 31 #[.int .i64 0, .string ⟨#[]⟩, .int .i64 0, .int .i64 0]) := Lib.hid (by rw [← hW0]; exact Blk.new w _ _)
  rw [hW0]
  clear hW0
  go_cut [6] (fun v6 wx => v6 = .int .i64 ((a : Int) + (m : Int)) ∧ W0 = wx)
  case first =>
    go_wp2_with fail
    go_loopw [6] (fun v6 wr => ∃ k : Nat, v6 = .int .i64 (k : Int) ∧ a ≤ k ∧ k ≤ n ∧ wr = W0 ∧ Hid (k + runP (l.drop k) = a + m)) (fun v6 _ => n - (intOf v6).toNat)
    case atStart => exact ⟨a, rfl, Nat.le_refl _, by omega, rfl, Lib.hid (by rw [HD.out, HM.out])⟩
    case round =>
      obtain ⟨k, rfl, hak, hk, rfl, HK⟩ := hrel
      by_cases hkn : k < n
      · have d1 : decide ((k : Int) < (s.size : Int)) = true := decide_eq_true (by omega)
        have d1n : decide (k < s.size) = true := decide_eq_true (by omega)
        have hks : k < s.size := by omega
        obtain ⟨c1, hc1⟩ : ∃ c, s[k]'hks = c := ⟨_, rfl⟩
        have hd : l.drop k = c1 :: l.drop (k + 1) := by rw [List.drop_eq_getElem_cons (by have := HLL.out; omega), ← hc1]; congr 1; rw [← str_get]; exact get_of HL.out.symm _
        have hrun := HK.out
        rw [hd] at hrun
        have hrun : k + (if wrdB c1 = true then runP (l.drop (k + 1)) + 1 else 0) = a + m := hrun
        have HC := Lib.hid hc1
        clear HK
        have HK := Lib.hid hrun
        clear hrun hd hc1
        go_wp2_with fail
        rw [HC.out]
        refine (rletter_any _ c1).mono ?_
        rintro e w' ⟨rfl, rfl⟩
        obtain ⟨b, hb⟩ : ∃ b, letB c1 = b := ⟨_, rfl⟩
        have HB := Lib.hid hb
        rw [hb]
        clear hb
        cases b
        · go_wp2_with fail
          rw [HC.out]
          refine (rdigit_any _ c1).mono ?_
          rintro e w' ⟨rfl, rfl⟩
          obtain ⟨b, hb⟩ : ∃ b, digB c1 = b := ⟨_, rfl⟩
          have HDG := Lib.hid hb
          rw [hb]
          clear hb
          cases b
          · have hw : wrdB c1 = false := by unfold wrdB; rw [HB.out, HDG.out]; rfl
            have h := HK.out
            rw [hw, if_neg (by simp)] at h
            have hkm : (k : Int) = (a : Int) + (m : Int) := by omega
            have HKM := Lib.hid hkm
            clear hw h hkm
            go_wp2_with fail
            go_meet
            exact ⟨int_eq HKM.out, rfl⟩
          · have hw : wrdB c1 = true := by unfold wrdB; rw [HB.out, HDG.out]; rfl
            have h := HK.out
            rw [hw, if_pos rfl] at h
            have HN2 : Hid ((k + 1) + runP (l.drop (k + 1)) = a + m) := Lib.hid (by omega)
            clear hw h
            go_wp2_with fail
            go_roundw
            case rel => exact ⟨k + 1, by simp, by omega, by omega, by first | rfl | trivial, HN2⟩
            case measure => simp [intOf]; omega
        · have hw : wrdB c1 = true := by unfold wrdB; rw [HB.out]; rfl
          have h := HK.out
          rw [hw, if_pos rfl] at h
          have HN2 : Hid ((k + 1) + runP (l.drop (k + 1)) = a + m) := Lib.hid (by omega)
          clear hw h
          go_wp2_with fail
          go_roundw
          case rel => exact ⟨k + 1, by simp, by omega, by omega, by first | rfl | trivial, HN2⟩
          case measure => simp [intOf]; omega
      · obtain rfl : k = n := by omega
        have d1 : decide ((k : Int) < (s.size : Int)) = false := decide_eq_false (by omega)
        have d1n : decide (k < s.size) = false := decide_eq_false (by omega)
        have h := HK.out
        rw [List.drop_eq_nil_of_le (by have := HLL.out; omega)] at h
        have hkm : (k : Int) = (a : Int) + (m : Int) := by have e : runP [] = 0 := rfl; omega
        have HKM := Lib.hid hkm
        clear h hkm
        go_wp2_with fail
        go_meet
        exact ⟨int_eq HKM.out, rfl⟩
  case rest =>
    obtain ⟨rfl, rfl⟩ := hcut
    have B0 : Hid (Blk W0 w.heap.size 31 #[.int .i64 0, .string ⟨#[]⟩, .int .i64 0, .int .i64 0]) := Lib.hid b0.out
    have p0 : W0.cell? ⟨w.heap.size, 0, none⟩ = some (.int .i64 0) := B0.out.cell 0
    have p1 : W0.cell? ⟨w.heap.size, 1, none⟩ = some (.string ⟨#[]⟩) := B0.out.cell 1
    have p2 : W0.cell? ⟨w.heap.size, 2, none⟩ = some (.int .i64 0) := B0.out.cell 2
    have p3 : W0.cell? ⟨w.heap.size, 3, none⟩ = some (.int .i64 0) := B0.out.cell 3
    have f0 : ∀ o, W0.frozen? ⟨w.heap.size, o, none⟩ = false := fun o => B0.out.frozen o
    have hlt : w.heap.size < W0.heap.size := B0.out.lt
    have HEW : Hid (Ext w W0) := Lib.hid HE0.out
    have a0 : 0 ≤ (a : Int) + (m : Int) := by omega
    have a1 : (a : Int) + (m : Int) ≤ (s.size : Int) := by omega
    have aT : ((a : Int) + (m : Int)).toNat = a + m := by omega
    go_wp2_with fail
    refine (rdigit_any _ c).mono ?_
    rintro e w' ⟨rfl, rfl⟩
    rw [HND.out]
    go_wp2_with fail
    refine (rkey_any (s.extract a (a + m)) _).mono ?_
    rintro e w1 ⟨rfl, he1⟩
    rw [HX.out]
    have HE1 := Lib.hid he1
    clear he1 p0 p1 p2 p3 f0 hlt HEW B0
    have B0 : Hid (Blk w1 w.heap.size 31 #[.int .i64 0, .string ⟨#[]⟩, .int .i64 0, .int .i64 0]) := Lib.hid (b0.out.ext HE1.out)
    have p0 : w1.cell? ⟨w.heap.size, 0, none⟩ = some (.int .i64 0) := B0.out.cell 0
    have p1 : w1.cell? ⟨w.heap.size, 1, none⟩ = some (.string ⟨#[]⟩) := B0.out.cell 1
    have p2 : w1.cell? ⟨w.heap.size, 2, none⟩ = some (.int .i64 0) := B0.out.cell 2
    have p3 : w1.cell? ⟨w.heap.size, 3, none⟩ = some (.int .i64 0) := B0.out.cell 3
    have f0 : ∀ o, w1.frozen? ⟨w.heap.size, o, none⟩ = false := fun o => B0.out.frozen o
    have hlt : w.heap.size < w1.heap.size := B0.out.lt
    have HEW : Hid (Ext w w1) := Lib.hid (HE0.out.trans HE1.out)
    obtain ⟨kb, hkb⟩ : ∃ kb, keyB ((c :: t).take m) = kb := ⟨_, rfl⟩
    have HW2 := HW.out
    rw [hkb] at HW2 ⊢
    have HWP := Lib.hid HW2
    clear HW2 HW hkb
    cases kb
    · go_wp2_with fail
      refine (rname_any _ (s.extract a (a + m))).mono ?_
      rintro e w2 ⟨rfl, he2⟩
      rw [HX.out]
      have HE2 : Hid (Ext W0 w2) := Lib.hid (HE1.out.trans he2)
      clear he2 p0 p1 p2 p3 f0 hlt HEW B0
      have B0 : Hid (Blk w2 w.heap.size 31 #[.int .i64 0, .string ⟨#[]⟩, .int .i64 0, .int .i64 0]) := Lib.hid (b0.out.ext HE2.out)
      have p0 : w2.cell? ⟨w.heap.size, 0, none⟩ = some (.int .i64 0) := B0.out.cell 0
      have p1 : w2.cell? ⟨w.heap.size, 1, none⟩ = some (.string ⟨#[]⟩) := B0.out.cell 1
      have p2 : w2.cell? ⟨w.heap.size, 2, none⟩ = some (.int .i64 0) := B0.out.cell 2
      have p3 : w2.cell? ⟨w.heap.size, 3, none⟩ = some (.int .i64 0) := B0.out.cell 3
      have f0 : ∀ o, w2.frozen? ⟨w.heap.size, o, none⟩ = false := fun o => B0.out.frozen o
      have hlt : w.heap.size < w2.heap.size := B0.out.lt
      have HEW : Hid (Ext w w2) := Lib.hid (HE0.out.trans HE2.out)
      obtain ⟨nb, hnb⟩ : ∃ nb, nameP ((c :: t).take m) = nb := ⟨_, rfl⟩
      have HR := HWP.out
      rw [hnb] at HR ⊢
      have HR2 := Lib.hid HR
      clear HR hnb
      cases nb
      · have HRR : Hid (wordP (c :: t) = none) := Lib.hid HR2.out
        go_wp2_with fail
        refine bodyPost_ret (v := .tuple #[wdV 0 0 0 ⟨#[]⟩, .int .i64 0]) (by simp [results, Tryd.results23, go_sem, wdV, *]) rfl ⟨?_, ?_⟩
        · rw [HRR.out]; rfl
        · repeat (first | exact HEW.out | refine Ext.setCell ?_ (by simp) _)
      · have HRR : Hid (wordP (c :: t) = some (⟨0, (c :: t).take m, 0, 0⟩, m)) := Lib.hid HR2.out
        go_wp2_with fail
        refine bodyPost_ret (v := .tuple #[wdV 0 0 (a : Int) (s.extract a (a + m)), .int .i64 ((a : Int) + (m : Int))]) (by simp [results, Tryd.results23, go_sem, wdV, *]) rfl ⟨?_, ?_⟩
        · rw [HRR.out, CAS.out, str_of HX.out]; rfl
        · repeat (first | exact HEW.out | refine Ext.setCell ?_ (by simp) _)
    · have HRR : Hid (wordP (c :: t) = some (⟨1, (c :: t).take m, 0, 0⟩, m)) := Lib.hid HWP.out
      go_wp2_with fail
      refine bodyPost_ret (v := .tuple #[wdV 1 0 (a : Int) (s.extract a (a + m)), .int .i64 ((a : Int) + (m : Int))]) (by simp [results, Tryd.results23, go_sem, wdV, *]) rfl ⟨?_, ?_⟩
      · rw [HRR.out, CAS.out, str_of HX.out]; rfl
      · repeat (first | exact HEW.out | refine Ext.setCell ?_ (by simp) _)
set_option maxRecDepth 100000 in
set_option maxHeartbeats 4000000 in
theorem rword_dig_any (w : World) (s : ByteArray) (a : Nat) (c : UInt8) (t : List UInt8) (hl : s.data.toList.drop a = c :: t) (hmax : s.size ≤ 140737488355000) (h0 : 0 < runP (c :: t)) (hdig : digB c = true) :
    Calls Tryd.prog 23 #[.string s, .int .i64 (a : Int)] w fun e w' => e = .returned (rwrdV a (wordP (c :: t))) ∧ Ext w w' := by
  obtain ⟨n, hn⟩ : ∃ n, s.size = n := ⟨_, rfl⟩
  obtain ⟨l, hL⟩ : ∃ l, s.data.toList = l := ⟨_, rfl⟩
  have hll : l.length = n := by rw [← hL]; exact hn
  rw [hL] at hl
  have han : a < n := by have := drop_lt hl; omega
  have hsa : a < s.size := by omega
  have hca : s[a]'hsa = c := by rw [← str_get s a hsa, get_of hL]; exact drop_get hl
  obtain ⟨m, hm⟩ : ∃ m, runP (c :: t) = m := ⟨_, rfl⟩
  have hmn : a + m ≤ n := by
    have h1 := run_len (c :: t)
    have h2 : (c :: t).length = n - a := by rw [← hl, List.length_drop, hll]
    omega
  have HL := Lib.hid hL
  have HLL := Lib.hid hll
  have HD := Lib.hid hl
  have HM := Lib.hid hm
  have HDG := Lib.hid hdig
  have HW : Hid (wordP (c :: t) = (numP ((c :: t).take m)).map fun (x : Nat) => ((⟨2, [], (x : Int), 0⟩ : Wd), m)) := Lib.hid (by
    unfold wordP; rw [hm, if_pos (by omega), if_neg (show ¬ headB letB (c :: t) = true by show ¬ letB c = true; rw [(dig_let hdig).1]; simp)])
  have hm0 : 0 < m := by omega
  have hex : (s.extract a (a + m)).data.toList = (c :: t).take m := by rw [Lib.extract_data, hL, hl]; congr 1; omega
  have hxs : (s.extract a (a + m)).size = m := by
    have e : (s.extract a (a + m)).data.toList.length = m := by
      rw [hex, List.length_take]
      have h2 : (c :: t).length = n - a := by rw [← hl, List.length_drop, hll]
      omega
    exact e
  have HXS := Lib.hid hxs
  have HX := Lib.hid hex
  have dm : decide ((a : Int) < (a : Int) + (m : Int)) = true := decide_eq_true (by omega)
  have cas : ((a : Int) + (m : Int)) = ((a + m : Nat) : Int) := by omega
  have CAS := Lib.hid cas
  clear hL hl hm hex hdig h0 cas hxs
  go_enter Tryd.func23, Tryd.ntmps23
  go_upto_block 0 with (fail)
  obtain ⟨W0, hW0⟩ : ∃ W0, w.alloc (.cells #[.int .i64 0, .string ⟨#[]⟩, .int .i64 0, .int .i64 0] 31) = W0 := ⟨_, rfl⟩
  have HE0 : Hid (Ext w W0) := Lib.hid (by rw [← hW0]; exact (Ext.refl w).alloc _)
  have b0 : Hid (Blk W0 w.heap.size 31 #[.int .i64 0, .string ⟨#[]⟩, .int .i64 0, .int .i64 0]) := Lib.hid (by rw [← hW0]; exact Blk.new w _ _)
  rw [hW0]
  clear hW0
  go_cut [6] (fun v6 wx => v6 = .int .i64 ((a : Int) + (m : Int)) ∧ W0 = wx)
  case first =>
    go_wp2_with fail
    go_loopw [6] (fun v6 wr => ∃ k : Nat, v6 = .int .i64 (k : Int) ∧ a ≤ k ∧ k ≤ n ∧ wr = W0 ∧ Hid (k + runP (l.drop k) = a + m)) (fun v6 _ => n - (intOf v6).toNat)
    case atStart => exact ⟨a, rfl, Nat.le_refl _, by omega, rfl, Lib.hid (by rw [HD.out, HM.out])⟩
    case round =>
      obtain ⟨k, rfl, hak, hk, rfl, HK⟩ := hrel
      by_cases hkn : k < n
      · have d1 : decide ((k : Int) < (s.size : Int)) = true := decide_eq_true (by omega)
        have d1n : decide (k < s.size) = true := decide_eq_true (by omega)
        have hks : k < s.size := by omega
        obtain ⟨c1, hc1⟩ : ∃ c, s[k]'hks = c := ⟨_, rfl⟩
        have hd : l.drop k = c1 :: l.drop (k + 1) := by rw [List.drop_eq_getElem_cons (by have := HLL.out; omega), ← hc1]; congr 1; rw [← str_get]; exact get_of HL.out.symm _
        have hrun := HK.out
        rw [hd] at hrun
        have hrun : k + (if wrdB c1 = true then runP (l.drop (k + 1)) + 1 else 0) = a + m := hrun
        have HC := Lib.hid hc1
        clear HK
        have HK := Lib.hid hrun
        clear hrun hd hc1
        go_wp2_with fail
        rw [HC.out]
        refine (rletter_any _ c1).mono ?_
        rintro e w' ⟨rfl, rfl⟩
        obtain ⟨b, hb⟩ : ∃ b, letB c1 = b := ⟨_, rfl⟩
        have HB := Lib.hid hb
        rw [hb]
        clear hb
        cases b
        · go_wp2_with fail
          rw [HC.out]
          refine (rdigit_any _ c1).mono ?_
          rintro e w' ⟨rfl, rfl⟩
          obtain ⟨b, hb⟩ : ∃ b, digB c1 = b := ⟨_, rfl⟩
          have HDG := Lib.hid hb
          rw [hb]
          clear hb
          cases b
          · have hw : wrdB c1 = false := by unfold wrdB; rw [HB.out, HDG.out]; rfl
            have h := HK.out
            rw [hw, if_neg (by simp)] at h
            have hkm : (k : Int) = (a : Int) + (m : Int) := by omega
            have HKM := Lib.hid hkm
            clear hw h hkm
            go_wp2_with fail
            go_meet
            exact ⟨int_eq HKM.out, rfl⟩
          · have hw : wrdB c1 = true := by unfold wrdB; rw [HB.out, HDG.out]; rfl
            have h := HK.out
            rw [hw, if_pos rfl] at h
            have HN2 : Hid ((k + 1) + runP (l.drop (k + 1)) = a + m) := Lib.hid (by omega)
            clear hw h
            go_wp2_with fail
            go_roundw
            case rel => exact ⟨k + 1, by simp, by omega, by omega, by first | rfl | trivial, HN2⟩
            case measure => simp [intOf]; omega
        · have hw : wrdB c1 = true := by unfold wrdB; rw [HB.out]; rfl
          have h := HK.out
          rw [hw, if_pos rfl] at h
          have HN2 : Hid ((k + 1) + runP (l.drop (k + 1)) = a + m) := Lib.hid (by omega)
          clear hw h
          go_wp2_with fail
          go_roundw
          case rel => exact ⟨k + 1, by simp, by omega, by omega, by first | rfl | trivial, HN2⟩
          case measure => simp [intOf]; omega
      · obtain rfl : k = n := by omega
        have d1 : decide ((k : Int) < (s.size : Int)) = false := decide_eq_false (by omega)
        have d1n : decide (k < s.size) = false := decide_eq_false (by omega)
        have h := HK.out
        rw [List.drop_eq_nil_of_le (by have := HLL.out; omega)] at h
        have hkm : (k : Int) = (a : Int) + (m : Int) := by have e : runP [] = 0 := rfl; omega
        have HKM := Lib.hid hkm
        clear h hkm
        go_wp2_with fail
        go_meet
        exact ⟨int_eq HKM.out, rfl⟩
  case rest =>
    obtain ⟨rfl, rfl⟩ := hcut
    have B0 : Hid (Blk W0 w.heap.size 31 #[.int .i64 0, .string ⟨#[]⟩, .int .i64 0, .int .i64 0]) := Lib.hid b0.out
    have p0 : W0.cell? ⟨w.heap.size, 0, none⟩ = some (.int .i64 0) := B0.out.cell 0
    have p1 : W0.cell? ⟨w.heap.size, 1, none⟩ = some (.string ⟨#[]⟩) := B0.out.cell 1
    have p2 : W0.cell? ⟨w.heap.size, 2, none⟩ = some (.int .i64 0) := B0.out.cell 2
    have p3 : W0.cell? ⟨w.heap.size, 3, none⟩ = some (.int .i64 0) := B0.out.cell 3
    have f0 : ∀ o, W0.frozen? ⟨w.heap.size, o, none⟩ = false := fun o => B0.out.frozen o
    have hlt : w.heap.size < W0.heap.size := B0.out.lt
    have HEW : Hid (Ext w W0) := Lib.hid HE0.out
    have a0 : 0 ≤ (a : Int) + (m : Int) := by omega
    have a1 : (a : Int) + (m : Int) ≤ (s.size : Int) := by omega
    have aT : ((a : Int) + (m : Int)).toNat = a + m := by omega
    go_wp2_with fail
    refine (rdigit_any _ c).mono ?_
    rintro e w' ⟨rfl, rfl⟩
    rw [HDG.out]
    go_wp2_with fail
    obtain ⟨Wz, hWz⟩ : ∃ Wz, W0 = Wz := ⟨_, rfl⟩
    have HWZ := Lib.hid hWz
    clear hWz
    go_loopw [7] (fun v7 wr => ∃ k : Nat, v7 = .int .i64 (k : Int) ∧ a ≤ k ∧ k ≤ a + m ∧ W0 = wr ∧ Hid (((c :: t).take (k - a)).all digB = true)) (fun v7 _ => a + m - (intOf v7).toNat)
    case atStart => exact ⟨a, rfl, Nat.le_refl _, by omega, rfl, Lib.hid (by rw [Nat.sub_self]; rfl)⟩
    case round =>
      obtain ⟨k, rfl, hak, hk, rfl, HK⟩ := hrel
      by_cases hkm : k < a + m
      · have d1 : decide ((k : Int) < (a : Int) + (m : Int)) = true := decide_eq_true (by omega)
        have hks : k < s.size := by omega
        obtain ⟨c1, hc1⟩ : ∃ c, s[k]'hks = c := ⟨_, rfl⟩
        have hkl : k < l.length := by have := HLL.out; omega
        have hcl : l[k]'hkl = c1 := by rw [← hc1, ← str_get s k hks]; exact get_of HL.out.symm _
        have htk : (c :: t).take (k + 1 - a) = (c :: t).take (k - a) ++ [c1] := by
          have h1 := take_drop_snoc (l := l) hak hkl
          rw [HD.out, hcl] at h1; exact h1
        have HTK := Lib.hid htk
        clear hcl htk
        go_wp2_with fail
        refine (rdigit_any _ c1).mono ?_
        rintro e w' ⟨rfl, rfl⟩
        obtain ⟨b, hb⟩ : ∃ b, digB c1 = b := ⟨_, rfl⟩
        have HB := Lib.hid hb
        rw [hb]
        clear hb
        cases b
        · have HRR : Hid (wordP (c :: t) = none) := Lib.hid (by
            have hnot : ¬ ((c :: t).take m).all digB = true := by
              intro h
              have h1 : c1 ∈ (c :: t).take m := by
                have h2 : c1 ∈ (c :: t).take (k + 1 - a) := by rw [HTK.out]; simp
                have h3 : (c :: t).take (k + 1 - a) = ((c :: t).take m).take (k + 1 - a) := by rw [List.take_take]; congr 1; omega
                rw [h3] at h2
                exact List.mem_of_mem_take h2
              have h4 := List.all_eq_true.1 h c1 h1
              rw [HB.out] at h4; cases h4
            rw [HW.out]
            unfold numP
            rw [if_neg (fun h => hnot h.1)]
            rfl)
          go_wp2_with fail
          refine bodyPost_ret (v := .tuple #[wdV 0 0 0 ⟨#[]⟩, .int .i64 0]) (by simp [results, Tryd.results23, go_sem, wdV, *]) rfl ⟨?_, ?_⟩
          · rw [HRR.out]; rfl
          · repeat (first | exact HEW.out | refine Ext.setCell ?_ (by simp) _)
        · have HN2 : Hid (((c :: t).take (k + 1 - a)).all digB = true) := Lib.hid (by rw [HTK.out, List.all_append, HK.out]; simp [HB.out])
          go_wp2_with fail
          go_roundw
          case rel => exact ⟨k + 1, by go_num, by omega, by omega, by first | rfl | trivial, HN2⟩
          case measure => simp [intOf]; omega
      · obtain rfl : k = a + m := by omega
        have d1 : decide (((a + m : Nat) : Int) < (a : Int) + (m : Int)) = false := decide_eq_false (by omega)
        have d2 : ((a + m : Nat) : Int) = (a : Int) + (m : Int) := by omega
        have d3 : decide ((a : Int) + (m : Int) < (a : Int) + (m : Int)) = false := decide_eq_false (by omega)
        have HAL : Hid ((s.extract a (a + m)).data.toList.all digB = true) := Lib.hid (by
          have h := HK.out
          rw [Nat.add_sub_cancel_left] at h
          rw [HX.out]; exact h)
        clear d2
        go_wp2_with fail
        refine (rnumber_any _ (s.extract a (a + m)) HAL.out (by rw [HXS.out]; omega)).mono ?_
        rintro e w1 ⟨rfl, he1⟩
        rw [HX.out]
        have HE1 := Lib.hid he1
        clear he1 p0 p1 p2 p3 f0 hlt HEW B0
        have B0 : Hid (Blk w1 w.heap.size 31 #[.int .i64 0, .string ⟨#[]⟩, .int .i64 0, .int .i64 0]) := Lib.hid (b0.out.ext HE1.out)
        have p0 : w1.cell? ⟨w.heap.size, 0, none⟩ = some (.int .i64 0) := B0.out.cell 0
        have p1 : w1.cell? ⟨w.heap.size, 1, none⟩ = some (.string ⟨#[]⟩) := B0.out.cell 1
        have p2 : w1.cell? ⟨w.heap.size, 2, none⟩ = some (.int .i64 0) := B0.out.cell 2
        have p3 : w1.cell? ⟨w.heap.size, 3, none⟩ = some (.int .i64 0) := B0.out.cell 3
        have f0 : ∀ o, w1.frozen? ⟨w.heap.size, o, none⟩ = false := fun o => B0.out.frozen o
        have hlt : w.heap.size < w1.heap.size := B0.out.lt
        have HEW : Hid (Ext w w1) := Lib.hid (HE0.out.trans HE1.out)
        obtain ⟨y, hy⟩ : ∃ y, numP ((c :: t).take m) = y := ⟨_, rfl⟩
        have HW2 := HW.out
        rw [hy] at HW2 ⊢
        have HYY := Lib.hid hy
        clear hy
        cases y with
        | none =>
          have HRR : Hid (wordP (c :: t) = none) := Lib.hid HW2
          clear HW2
          simp only [numV]
          go_wp2_with fail
          refine bodyPost_ret (v := .tuple #[wdV 0 0 0 ⟨#[]⟩, .int .i64 0]) (by simp [results, Tryd.results23, go_sem, wdV, *]) rfl ⟨?_, ?_⟩
          · rw [HRR.out]; rfl
          · repeat (first | exact HEW.out | refine Ext.setCell ?_ (by simp) _)
        | some v =>
          have HRR : Hid (wordP (c :: t) = some (⟨2, [], (v : Int), 0⟩, m)) := Lib.hid HW2
          clear HW2
          simp only [numV]
          go_wp2_with fail
          refine bodyPost_ret (v := .tuple #[wdV 2 (v : Int) (a : Int) ⟨#[]⟩, .int .i64 ((a : Int) + (m : Int))]) (by simp [results, Tryd.results23, go_sem, wdV, *]) rfl ⟨?_, ?_⟩
          · rw [HRR.out, CAS.out]; rfl
          · repeat (first | exact HEW.out | refine Ext.setCell ?_ (by simp) _)
set_option maxRecDepth 100000 in
set_option maxHeartbeats 4000000 in
theorem rword_q39_any (w : World) (s : ByteArray) (a : Nat) (c : UInt8) (t : List UInt8) (hl : s.data.toList.drop a = c :: t) (hmax : s.size ≤ 140737488355000) (h0 : runP (c :: t) = 0) (hq : c.toNat = 39) :
    Calls Tryd.prog 23 #[.string s, .int .i64 (a : Int)] w fun e w' => e = .returned (rwrdV a (wordP (c :: t))) ∧ Ext w w' := by
  obtain ⟨n, hn⟩ : ∃ n, s.size = n := ⟨_, rfl⟩
  obtain ⟨l, hL⟩ : ∃ l, s.data.toList = l := ⟨_, rfl⟩
  have hll : l.length = n := by rw [← hL]; exact hn
  rw [hL] at hl
  have han : a < n := by have := drop_lt hl; omega
  have hsa : a < s.size := by omega
  have hca : s[a]'hsa = c := by rw [← str_get s a hsa, get_of hL]; exact drop_get hl
  obtain ⟨m, hm⟩ : ∃ m, runP (c :: t) = m := ⟨_, rfl⟩
  have hmn : a + m ≤ n := by
    have h1 := run_len (c :: t)
    have h2 : (c :: t).length = n - a := by rw [← hl, List.length_drop, hll]
    omega
  have HL := Lib.hid hL
  have HLL := Lib.hid hll
  have HD := Lib.hid hl
  have HM := Lib.hid hm
  have HW : Hid (wordP (c :: t) = (textP c t).map fun x => (⟨3, x.1, 0, 0⟩, x.2 + 1)) := Lib.hid (by
    unfold wordP; rw [h0, if_neg (by omega)]; unfold wordQ; dsimp only; rw [if_pos (by omega)])
  have HM0 : Hid (m = 0) := Lib.hid (by omega)
  have dm0 : decide ((a : Int) < (a : Int)) = false := decide_eq_false (by omega)
  have dmn : decide (a < a) = false := decide_eq_false (by omega)
  have d39 : ((c.toNat : Int) == 39) = true := by rw [hq]; rfl
  have d34 : ((c.toNat : Int) == 34) = false := by rw [hq]; rfl
  have HQ := Lib.hid hq
  have HDD : Hid (s.data.toList.drop a = c :: t) := Lib.hid (by rw [hL]; exact hl)
  clear hL hl hm hq h0
  go_enter Tryd.func23, Tryd.ntmps23
  go_upto_block 0 with (fail)
  obtain ⟨W0, hW0⟩ : ∃ W0, w.alloc (.cells #[.int .i64 0, .string ⟨#[]⟩, .int .i64 0, .int .i64 0] 31) = W0 := ⟨_, rfl⟩
  have HE0 : Hid (Ext w W0) := Lib.hid (by rw [← hW0]; exact (Ext.refl w).alloc _)
  have b0 : Hid (Blk W0 w.heap.size 31 #[.int .i64 0, .string ⟨#[]⟩, .int .i64 0, .int .i64 0]) := Lib.hid (by rw [← hW0]; exact Blk.new w _ _)
  rw [hW0]
  clear hW0
  go_cut [6] (fun v6 wx => v6 = .int .i64 (a : Int) ∧ W0 = wx)
  case first =>
    go_wp2_with fail
    go_loopw [6] (fun v6 wr => ∃ k : Nat, v6 = .int .i64 (k : Int) ∧ a ≤ k ∧ k ≤ n ∧ wr = W0 ∧ Hid (k + runP (l.drop k) = a + m)) (fun v6 _ => n - (intOf v6).toNat)
    case atStart => exact ⟨a, rfl, Nat.le_refl _, by omega, rfl, Lib.hid (by rw [HD.out, HM.out])⟩
    case round =>
      obtain ⟨k, rfl, hak, hk, rfl, HK⟩ := hrel
      by_cases hkn : k < n
      · have d1 : decide ((k : Int) < (s.size : Int)) = true := decide_eq_true (by omega)
        have d1n : decide (k < s.size) = true := decide_eq_true (by omega)
        have hks : k < s.size := by omega
        obtain ⟨c1, hc1⟩ : ∃ c, s[k]'hks = c := ⟨_, rfl⟩
        have hd : l.drop k = c1 :: l.drop (k + 1) := by rw [List.drop_eq_getElem_cons (by have := HLL.out; omega), ← hc1]; congr 1; rw [← str_get]; exact get_of HL.out.symm _
        have hrun := HK.out
        rw [hd] at hrun
        have hrun : k + (if wrdB c1 = true then runP (l.drop (k + 1)) + 1 else 0) = a + m := hrun
        have HC := Lib.hid hc1
        clear HK
        have HK := Lib.hid hrun
        clear hrun hd hc1
        go_wp2_with fail
        rw [HC.out]
        refine (rletter_any _ c1).mono ?_
        rintro e w' ⟨rfl, rfl⟩
        obtain ⟨b, hb⟩ : ∃ b, letB c1 = b := ⟨_, rfl⟩
        have HB := Lib.hid hb
        rw [hb]
        clear hb
        cases b
        · go_wp2_with fail
          rw [HC.out]
          refine (rdigit_any _ c1).mono ?_
          rintro e w' ⟨rfl, rfl⟩
          obtain ⟨b, hb⟩ : ∃ b, digB c1 = b := ⟨_, rfl⟩
          have HDG := Lib.hid hb
          rw [hb]
          clear hb
          cases b
          · have hw : wrdB c1 = false := by unfold wrdB; rw [HB.out, HDG.out]; rfl
            have h := HK.out
            rw [hw, if_neg (by simp)] at h
            have hkm : (k : Int) = (a : Int) := by have := HM0.out; omega
            have HKM := Lib.hid hkm
            clear hw h hkm
            go_wp2_with fail
            go_meet
            exact ⟨int_eq HKM.out, rfl⟩
          · have hw : wrdB c1 = true := by unfold wrdB; rw [HB.out, HDG.out]; rfl
            have h := HK.out
            rw [hw, if_pos rfl] at h
            have HN2 : Hid ((k + 1) + runP (l.drop (k + 1)) = a + m) := Lib.hid (by omega)
            clear hw h
            go_wp2_with fail
            go_roundw
            case rel => exact ⟨k + 1, by simp, by omega, by omega, by first | rfl | trivial, HN2⟩
            case measure => simp [intOf]; omega
        · have hw : wrdB c1 = true := by unfold wrdB; rw [HB.out]; rfl
          have h := HK.out
          rw [hw, if_pos rfl] at h
          have HN2 : Hid ((k + 1) + runP (l.drop (k + 1)) = a + m) := Lib.hid (by omega)
          clear hw h
          go_wp2_with fail
          go_roundw
          case rel => exact ⟨k + 1, by simp, by omega, by omega, by first | rfl | trivial, HN2⟩
          case measure => simp [intOf]; omega
      · obtain rfl : k = n := by omega
        have d1 : decide ((k : Int) < (s.size : Int)) = false := decide_eq_false (by omega)
        have d1n : decide (k < s.size) = false := decide_eq_false (by omega)
        have h := HK.out
        rw [List.drop_eq_nil_of_le (by have := HLL.out; omega)] at h
        have hkm : (k : Int) = (a : Int) := by have := HM0.out; have e : runP [] = 0 := rfl; omega
        have HKM := Lib.hid hkm
        clear h hkm
        go_wp2_with fail
        go_meet
        exact ⟨int_eq HKM.out, rfl⟩
  case rest =>
    obtain ⟨rfl, rfl⟩ := hcut
    have B0 : Hid (Blk W0 w.heap.size 31 #[.int .i64 0, .string ⟨#[]⟩, .int .i64 0, .int .i64 0]) := Lib.hid b0.out
    have p0 : W0.cell? ⟨w.heap.size, 0, none⟩ = some (.int .i64 0) := B0.out.cell 0
    have p1 : W0.cell? ⟨w.heap.size, 1, none⟩ = some (.string ⟨#[]⟩) := B0.out.cell 1
    have p2 : W0.cell? ⟨w.heap.size, 2, none⟩ = some (.int .i64 0) := B0.out.cell 2
    have p3 : W0.cell? ⟨w.heap.size, 3, none⟩ = some (.int .i64 0) := B0.out.cell 3
    have f0 : ∀ o, W0.frozen? ⟨w.heap.size, o, none⟩ = false := fun o => B0.out.frozen o
    have hlt : w.heap.size < W0.heap.size := B0.out.lt
    have HEW : Hid (Ext w W0) := Lib.hid HE0.out
    go_wp2_with fail
    refine (rtext_any W0 s a c t HDD.out hmax).mono ?_
    rintro e w1 ⟨rfl, he1⟩
    have HE1 := Lib.hid he1
    clear he1 p0 p1 p2 p3 f0 hlt HEW B0
    have B0 : Hid (Blk w1 w.heap.size 31 #[.int .i64 0, .string ⟨#[]⟩, .int .i64 0, .int .i64 0]) := Lib.hid (b0.out.ext HE1.out)
    have p0 : w1.cell? ⟨w.heap.size, 0, none⟩ = some (.int .i64 0) := B0.out.cell 0
    have p1 : w1.cell? ⟨w.heap.size, 1, none⟩ = some (.string ⟨#[]⟩) := B0.out.cell 1
    have p2 : w1.cell? ⟨w.heap.size, 2, none⟩ = some (.int .i64 0) := B0.out.cell 2
    have p3 : w1.cell? ⟨w.heap.size, 3, none⟩ = some (.int .i64 0) := B0.out.cell 3
    have f0 : ∀ o, w1.frozen? ⟨w.heap.size, o, none⟩ = false := fun o => B0.out.frozen o
    have hlt : w.heap.size < w1.heap.size := B0.out.lt
    have HEW : Hid (Ext w w1) := Lib.hid (HE0.out.trans HE1.out)
    obtain ⟨y, hy⟩ : ∃ y, textP c t = y := ⟨_, rfl⟩
    have HW2 := HW.out
    rw [hy] at HW2 ⊢
    have HYY := Lib.hid hy
    clear hy
    cases y with
    | none =>
      have HRR : Hid (wordP (c :: t) = none) := Lib.hid HW2
      clear HW2
      simp only [rtxtV]
      go_wp2_with fail
      refine bodyPost_ret (v := .tuple #[wdV 0 0 0 ⟨#[]⟩, .int .i64 0]) (by simp [results, Tryd.results23, go_sem, wdV, *]) rfl ⟨?_, ?_⟩
      · rw [HRR.out]; rfl
      · repeat (first | exact HEW.out | refine Ext.setCell ?_ (by simp) _)
    | some x =>
      obtain ⟨x, j⟩ := x
      have HRR : Hid (wordP (c :: t) = some (⟨3, x, 0, 0⟩, j + 1)) := Lib.hid HW2
      clear HW2
      simp only [rtxtV]
      obtain ⟨z, hz⟩ : ∃ z, a + j + 1 = z := ⟨_, rfl⟩
      rw [hz]
      have hz0 : ((z : Int) == 0) = false := by rw [beq_eq_false_iff_ne]; omega
      have HZ := Lib.hid hz
      clear hz
      go_wp2_with fail
      refine bodyPost_ret (v := .tuple #[wdV 3 0 (a : Int) ⟨x.toArray⟩, .int .i64 (z : Int)]) (by simp [results, Tryd.results23, go_sem, wdV, *]) rfl ⟨?_, ?_⟩
      · rw [HRR.out, ← HZ.out]; rfl
      · repeat (first | exact HEW.out | refine Ext.setCell ?_ (by simp) _)
set_option maxRecDepth 100000 in
set_option maxHeartbeats 4000000 in
theorem rword_q34_any (w : World) (s : ByteArray) (a : Nat) (c : UInt8) (t : List UInt8) (hl : s.data.toList.drop a = c :: t) (hmax : s.size ≤ 140737488355000) (h0 : runP (c :: t) = 0) (hq : c.toNat = 34) :
    Calls Tryd.prog 23 #[.string s, .int .i64 (a : Int)] w fun e w' => e = .returned (rwrdV a (wordP (c :: t))) ∧ Ext w w' := by
  obtain ⟨n, hn⟩ : ∃ n, s.size = n := ⟨_, rfl⟩
  obtain ⟨l, hL⟩ : ∃ l, s.data.toList = l := ⟨_, rfl⟩
  have hll : l.length = n := by rw [← hL]; exact hn
  rw [hL] at hl
  have han : a < n := by have := drop_lt hl; omega
  have hsa : a < s.size := by omega
  have hca : s[a]'hsa = c := by rw [← str_get s a hsa, get_of hL]; exact drop_get hl
  obtain ⟨m, hm⟩ : ∃ m, runP (c :: t) = m := ⟨_, rfl⟩
  have hmn : a + m ≤ n := by
    have h1 := run_len (c :: t)
    have h2 : (c :: t).length = n - a := by rw [← hl, List.length_drop, hll]
    omega
  have HL := Lib.hid hL
  have HLL := Lib.hid hll
  have HD := Lib.hid hl
  have HM := Lib.hid hm
  have HW : Hid (wordP (c :: t) = (textP c t).map fun x => (⟨3, x.1, 0, 0⟩, x.2 + 1)) := Lib.hid (by
    unfold wordP; rw [h0, if_neg (by omega)]; unfold wordQ; dsimp only; rw [if_pos (by omega)])
  have HM0 : Hid (m = 0) := Lib.hid (by omega)
  have dm0 : decide ((a : Int) < (a : Int)) = false := decide_eq_false (by omega)
  have dmn : decide (a < a) = false := decide_eq_false (by omega)
  have d39 : ((c.toNat : Int) == 39) = false := by rw [hq]; rfl
  have d34 : ((c.toNat : Int) == 34) = true := by rw [hq]; rfl
  have HQ := Lib.hid hq
  have HDD : Hid (s.data.toList.drop a = c :: t) := Lib.hid (by rw [hL]; exact hl)
  clear hL hl hm hq h0
  go_enter Tryd.func23, Tryd.ntmps23
  go_upto_block 0 with (fail)
  obtain ⟨W0, hW0⟩ : ∃ W0, w.alloc (.cells #[.int .i64 0, .string ⟨#[]⟩, .int .i64 0, .int .i64 0] 31) = W0 := ⟨_, rfl⟩
  have HE0 : Hid (Ext w W0) := Lib.hid (by rw [← hW0]; exact (Ext.refl w).alloc _)
  have b0 : Hid (Blk W0 w.heap.size 31 #[.int .i64 0, .string ⟨#[]⟩, .int .i64 0, .int .i64 0]) := Lib.hid (by rw [← hW0]; exact Blk.new w _ _)
  rw [hW0]
  clear hW0
  go_cut [6] (fun v6 wx => v6 = .int .i64 (a : Int) ∧ W0 = wx)
  case first =>
    go_wp2_with fail
    go_loopw [6] (fun v6 wr => ∃ k : Nat, v6 = .int .i64 (k : Int) ∧ a ≤ k ∧ k ≤ n ∧ wr = W0 ∧ Hid (k + runP (l.drop k) = a + m)) (fun v6 _ => n - (intOf v6).toNat)
    case atStart => exact ⟨a, rfl, Nat.le_refl _, by omega, rfl, Lib.hid (by rw [HD.out, HM.out])⟩
    case round =>
      obtain ⟨k, rfl, hak, hk, rfl, HK⟩ := hrel
      by_cases hkn : k < n
      · have d1 : decide ((k : Int) < (s.size : Int)) = true := decide_eq_true (by omega)
        have d1n : decide (k < s.size) = true := decide_eq_true (by omega)
        have hks : k < s.size := by omega
        obtain ⟨c1, hc1⟩ : ∃ c, s[k]'hks = c := ⟨_, rfl⟩
        have hd : l.drop k = c1 :: l.drop (k + 1) := by rw [List.drop_eq_getElem_cons (by have := HLL.out; omega), ← hc1]; congr 1; rw [← str_get]; exact get_of HL.out.symm _
        have hrun := HK.out
        rw [hd] at hrun
        have hrun : k + (if wrdB c1 = true then runP (l.drop (k + 1)) + 1 else 0) = a + m := hrun
        have HC := Lib.hid hc1
        clear HK
        have HK := Lib.hid hrun
        clear hrun hd hc1
        go_wp2_with fail
        rw [HC.out]
        refine (rletter_any _ c1).mono ?_
        rintro e w' ⟨rfl, rfl⟩
        obtain ⟨b, hb⟩ : ∃ b, letB c1 = b := ⟨_, rfl⟩
        have HB := Lib.hid hb
        rw [hb]
        clear hb
        cases b
        · go_wp2_with fail
          rw [HC.out]
          refine (rdigit_any _ c1).mono ?_
          rintro e w' ⟨rfl, rfl⟩
          obtain ⟨b, hb⟩ : ∃ b, digB c1 = b := ⟨_, rfl⟩
          have HDG := Lib.hid hb
          rw [hb]
          clear hb
          cases b
          · have hw : wrdB c1 = false := by unfold wrdB; rw [HB.out, HDG.out]; rfl
            have h := HK.out
            rw [hw, if_neg (by simp)] at h
            have hkm : (k : Int) = (a : Int) := by have := HM0.out; omega
            have HKM := Lib.hid hkm
            clear hw h hkm
            go_wp2_with fail
            go_meet
            exact ⟨int_eq HKM.out, rfl⟩
          · have hw : wrdB c1 = true := by unfold wrdB; rw [HB.out, HDG.out]; rfl
            have h := HK.out
            rw [hw, if_pos rfl] at h
            have HN2 : Hid ((k + 1) + runP (l.drop (k + 1)) = a + m) := Lib.hid (by omega)
            clear hw h
            go_wp2_with fail
            go_roundw
            case rel => exact ⟨k + 1, by simp, by omega, by omega, by first | rfl | trivial, HN2⟩
            case measure => simp [intOf]; omega
        · have hw : wrdB c1 = true := by unfold wrdB; rw [HB.out]; rfl
          have h := HK.out
          rw [hw, if_pos rfl] at h
          have HN2 : Hid ((k + 1) + runP (l.drop (k + 1)) = a + m) := Lib.hid (by omega)
          clear hw h
          go_wp2_with fail
          go_roundw
          case rel => exact ⟨k + 1, by simp, by omega, by omega, by first | rfl | trivial, HN2⟩
          case measure => simp [intOf]; omega
      · obtain rfl : k = n := by omega
        have d1 : decide ((k : Int) < (s.size : Int)) = false := decide_eq_false (by omega)
        have d1n : decide (k < s.size) = false := decide_eq_false (by omega)
        have h := HK.out
        rw [List.drop_eq_nil_of_le (by have := HLL.out; omega)] at h
        have hkm : (k : Int) = (a : Int) := by have := HM0.out; have e : runP [] = 0 := rfl; omega
        have HKM := Lib.hid hkm
        clear h hkm
        go_wp2_with fail
        go_meet
        exact ⟨int_eq HKM.out, rfl⟩
  case rest =>
    obtain ⟨rfl, rfl⟩ := hcut
    have B0 : Hid (Blk W0 w.heap.size 31 #[.int .i64 0, .string ⟨#[]⟩, .int .i64 0, .int .i64 0]) := Lib.hid b0.out
    have p0 : W0.cell? ⟨w.heap.size, 0, none⟩ = some (.int .i64 0) := B0.out.cell 0
    have p1 : W0.cell? ⟨w.heap.size, 1, none⟩ = some (.string ⟨#[]⟩) := B0.out.cell 1
    have p2 : W0.cell? ⟨w.heap.size, 2, none⟩ = some (.int .i64 0) := B0.out.cell 2
    have p3 : W0.cell? ⟨w.heap.size, 3, none⟩ = some (.int .i64 0) := B0.out.cell 3
    have f0 : ∀ o, W0.frozen? ⟨w.heap.size, o, none⟩ = false := fun o => B0.out.frozen o
    have hlt : w.heap.size < W0.heap.size := B0.out.lt
    have HEW : Hid (Ext w W0) := Lib.hid HE0.out
    go_wp2_with fail
    refine (rtext_any W0 s a c t HDD.out hmax).mono ?_
    rintro e w1 ⟨rfl, he1⟩
    have HE1 := Lib.hid he1
    clear he1 p0 p1 p2 p3 f0 hlt HEW B0
    have B0 : Hid (Blk w1 w.heap.size 31 #[.int .i64 0, .string ⟨#[]⟩, .int .i64 0, .int .i64 0]) := Lib.hid (b0.out.ext HE1.out)
    have p0 : w1.cell? ⟨w.heap.size, 0, none⟩ = some (.int .i64 0) := B0.out.cell 0
    have p1 : w1.cell? ⟨w.heap.size, 1, none⟩ = some (.string ⟨#[]⟩) := B0.out.cell 1
    have p2 : w1.cell? ⟨w.heap.size, 2, none⟩ = some (.int .i64 0) := B0.out.cell 2
    have p3 : w1.cell? ⟨w.heap.size, 3, none⟩ = some (.int .i64 0) := B0.out.cell 3
    have f0 : ∀ o, w1.frozen? ⟨w.heap.size, o, none⟩ = false := fun o => B0.out.frozen o
    have hlt : w.heap.size < w1.heap.size := B0.out.lt
    have HEW : Hid (Ext w w1) := Lib.hid (HE0.out.trans HE1.out)
    obtain ⟨y, hy⟩ : ∃ y, textP c t = y := ⟨_, rfl⟩
    have HW2 := HW.out
    rw [hy] at HW2 ⊢
    have HYY := Lib.hid hy
    clear hy
    cases y with
    | none =>
      have HRR : Hid (wordP (c :: t) = none) := Lib.hid HW2
      clear HW2
      simp only [rtxtV]
      go_wp2_with fail
      refine bodyPost_ret (v := .tuple #[wdV 0 0 0 ⟨#[]⟩, .int .i64 0]) (by simp [results, Tryd.results23, go_sem, wdV, *]) rfl ⟨?_, ?_⟩
      · rw [HRR.out]; rfl
      · repeat (first | exact HEW.out | refine Ext.setCell ?_ (by simp) _)
    | some x =>
      obtain ⟨x, j⟩ := x
      have HRR : Hid (wordP (c :: t) = some (⟨3, x, 0, 0⟩, j + 1)) := Lib.hid HW2
      clear HW2
      simp only [rtxtV]
      obtain ⟨z, hz⟩ : ∃ z, a + j + 1 = z := ⟨_, rfl⟩
      rw [hz]
      have hz0 : ((z : Int) == 0) = false := by rw [beq_eq_false_iff_ne]; omega
      have HZ := Lib.hid hz
      clear hz
      go_wp2_with fail
      refine bodyPost_ret (v := .tuple #[wdV 3 0 (a : Int) ⟨x.toArray⟩, .int .i64 (z : Int)]) (by simp [results, Tryd.results23, go_sem, wdV, *]) rfl ⟨?_, ?_⟩
      · rw [HRR.out, ← HZ.out]; rfl
      · repeat (first | exact HEW.out | refine Ext.setCell ?_ (by simp) _)
theorem rsigns_any (w : World) : Calls Tryd.prog 48 #[] w fun e w' => e = .returned (.slice (some ⟨w.heap.size, 0, none⟩) 24 24) ∧ w.alloc (.cells signV 9) = w' := by
  go_enter Tryd.func48, Tryd.ntmps48
  go_wp2
  go_ret
  exact ⟨rfl, rfl⟩
theorem signV_get (k : Nat) (h : k < 24) : signV[k]? = some (.string (signW.getD k ⟨#[]⟩)) := by
  have h' : k < signW.length := h
  simp [signV, List.getD, h']
set_option maxRecDepth 100000 in
set_option maxHeartbeats 4000000 in
theorem rword_sign_any (w : World) (s : ByteArray) (a : Nat) (c : UInt8) (t : List UInt8) (hl : s.data.toList.drop a = c :: t) (hmax : s.size ≤ 140737488355000) (h0 : runP (c :: t) = 0) (hq1 : ¬ c.toNat = 39) (hq2 : ¬ c.toNat = 34) :
    Calls Tryd.prog 23 #[.string s, .int .i64 (a : Int)] w fun e w' => e = .returned (rwrdV a (wordP (c :: t))) ∧ Ext w w' := by
  obtain ⟨n, hn⟩ : ∃ n, s.size = n := ⟨_, rfl⟩
  obtain ⟨l, hL⟩ : ∃ l, s.data.toList = l := ⟨_, rfl⟩
  have hll : l.length = n := by rw [← hL]; exact hn
  rw [hL] at hl
  have han : a < n := by have := drop_lt hl; omega
  have hsa : a < s.size := by omega
  have hca : s[a]'hsa = c := by rw [← str_get s a hsa, get_of hL]; exact drop_get hl
  obtain ⟨m, hm⟩ : ∃ m, runP (c :: t) = m := ⟨_, rfl⟩
  have hmn : a + m ≤ n := by
    have h1 := run_len (c :: t)
    have h2 : (c :: t).length = n - a := by rw [← hl, List.length_drop, hll]
    omega
  have HL := Lib.hid hL
  have HLL := Lib.hid hll
  have HD := Lib.hid hl
  have HM := Lib.hid hm
  have HW : Hid (wordP (c :: t) = (signL.find? fun x => preB x (c :: t)).map fun x => (⟨4, x, 0, 0⟩, x.length)) := Lib.hid (by
    unfold wordP; rw [h0, if_neg (by omega)]; unfold wordQ; dsimp only; rw [if_neg (by omega)])
  have HM0 : Hid (m = 0) := Lib.hid (by omega)
  have dm0 : decide ((a : Int) < (a : Int)) = false := decide_eq_false (by omega)
  have dmn : decide (a < a) = false := decide_eq_false (by omega)
  have d39 : ((c.toNat : Int) == 39) = false := by rw [beq_eq_false_iff_ne]; omega
  have d34 : ((c.toNat : Int) == 34) = false := by rw [beq_eq_false_iff_ne]; omega
  have HDD : Hid (s.data.toList.drop a = c :: t) := Lib.hid (by rw [hL]; exact hl)
  clear hL hl hm hq1 hq2 h0
  go_enter Tryd.func23, Tryd.ntmps23
  go_upto_block 0 with (fail)
  obtain ⟨W0, hW0⟩ : ∃ W0, w.alloc (.cells #[.int .i64 0, .string ⟨#[]⟩, .int .i64 0, .int .i64 0] 31) = W0 := ⟨_, rfl⟩
  have HE0 : Hid (Ext w W0) := Lib.hid (by rw [← hW0]; exact (Ext.refl w).alloc _)
  have b0 : Hid (Blk W0 w.heap.size 31 #[.int .i64 0, .string ⟨#[]⟩, .int .i64 0, .int .i64 0]) := Lib.hid (by rw [← hW0]; exact Blk.new w _ _)
  rw [hW0]
  clear hW0
  go_cut [6] (fun v6 wx => v6 = .int .i64 (a : Int) ∧ W0 = wx)
  case first =>
    go_wp2_with fail
    go_loopw [6] (fun v6 wr => ∃ k : Nat, v6 = .int .i64 (k : Int) ∧ a ≤ k ∧ k ≤ n ∧ wr = W0 ∧ Hid (k + runP (l.drop k) = a + m)) (fun v6 _ => n - (intOf v6).toNat)
    case atStart => exact ⟨a, rfl, Nat.le_refl _, by omega, rfl, Lib.hid (by rw [HD.out, HM.out])⟩
    case round =>
      obtain ⟨k, rfl, hak, hk, rfl, HK⟩ := hrel
      by_cases hkn : k < n
      · have d1 : decide ((k : Int) < (s.size : Int)) = true := decide_eq_true (by omega)
        have d1n : decide (k < s.size) = true := decide_eq_true (by omega)
        have hks : k < s.size := by omega
        obtain ⟨c1, hc1⟩ : ∃ c, s[k]'hks = c := ⟨_, rfl⟩
        have hd : l.drop k = c1 :: l.drop (k + 1) := by rw [List.drop_eq_getElem_cons (by have := HLL.out; omega), ← hc1]; congr 1; rw [← str_get]; exact get_of HL.out.symm _
        have hrun := HK.out
        rw [hd] at hrun
        have hrun : k + (if wrdB c1 = true then runP (l.drop (k + 1)) + 1 else 0) = a + m := hrun
        have HC := Lib.hid hc1
        clear HK
        have HK := Lib.hid hrun
        clear hrun hd hc1
        go_wp2_with fail
        rw [HC.out]
        refine (rletter_any _ c1).mono ?_
        rintro e w' ⟨rfl, rfl⟩
        obtain ⟨b, hb⟩ : ∃ b, letB c1 = b := ⟨_, rfl⟩
        have HB := Lib.hid hb
        rw [hb]
        clear hb
        cases b
        · go_wp2_with fail
          rw [HC.out]
          refine (rdigit_any _ c1).mono ?_
          rintro e w' ⟨rfl, rfl⟩
          obtain ⟨b, hb⟩ : ∃ b, digB c1 = b := ⟨_, rfl⟩
          have HDG := Lib.hid hb
          rw [hb]
          clear hb
          cases b
          · have hw : wrdB c1 = false := by unfold wrdB; rw [HB.out, HDG.out]; rfl
            have h := HK.out
            rw [hw, if_neg (by simp)] at h
            have hkm : (k : Int) = (a : Int) := by have := HM0.out; omega
            have HKM := Lib.hid hkm
            clear hw h hkm
            go_wp2_with fail
            go_meet
            exact ⟨int_eq HKM.out, rfl⟩
          · have hw : wrdB c1 = true := by unfold wrdB; rw [HB.out, HDG.out]; rfl
            have h := HK.out
            rw [hw, if_pos rfl] at h
            have HN2 : Hid ((k + 1) + runP (l.drop (k + 1)) = a + m) := Lib.hid (by omega)
            clear hw h
            go_wp2_with fail
            go_roundw
            case rel => exact ⟨k + 1, by simp, by omega, by omega, by first | rfl | trivial, HN2⟩
            case measure => simp [intOf]; omega
        · have hw : wrdB c1 = true := by unfold wrdB; rw [HB.out]; rfl
          have h := HK.out
          rw [hw, if_pos rfl] at h
          have HN2 : Hid ((k + 1) + runP (l.drop (k + 1)) = a + m) := Lib.hid (by omega)
          clear hw h
          go_wp2_with fail
          go_roundw
          case rel => exact ⟨k + 1, by simp, by omega, by omega, by first | rfl | trivial, HN2⟩
          case measure => simp [intOf]; omega
      · obtain rfl : k = n := by omega
        have d1 : decide ((k : Int) < (s.size : Int)) = false := decide_eq_false (by omega)
        have d1n : decide (k < s.size) = false := decide_eq_false (by omega)
        have h := HK.out
        rw [List.drop_eq_nil_of_le (by have := HLL.out; omega)] at h
        have hkm : (k : Int) = (a : Int) := by have := HM0.out; have e : runP [] = 0 := rfl; omega
        have HKM := Lib.hid hkm
        clear h hkm
        go_wp2_with fail
        go_meet
        exact ⟨int_eq HKM.out, rfl⟩
  case rest =>
    obtain ⟨rfl, rfl⟩ := hcut
    have B0 : Hid (Blk W0 w.heap.size 31 #[.int .i64 0, .string ⟨#[]⟩, .int .i64 0, .int .i64 0]) := Lib.hid b0.out
    have p0 : W0.cell? ⟨w.heap.size, 0, none⟩ = some (.int .i64 0) := B0.out.cell 0
    have p1 : W0.cell? ⟨w.heap.size, 1, none⟩ = some (.string ⟨#[]⟩) := B0.out.cell 1
    have p2 : W0.cell? ⟨w.heap.size, 2, none⟩ = some (.int .i64 0) := B0.out.cell 2
    have p3 : W0.cell? ⟨w.heap.size, 3, none⟩ = some (.int .i64 0) := B0.out.cell 3
    have f0 : ∀ o, W0.frozen? ⟨w.heap.size, o, none⟩ = false := fun o => B0.out.frozen o
    have hlt : w.heap.size < W0.heap.size := B0.out.lt
    have HEW : Hid (Ext w W0) := Lib.hid HE0.out
    go_wp2_with fail
    refine (rsigns_any W0).mono ?_
    rintro e w1 ⟨rfl, hw1⟩
    have HE1 : Hid (Ext W0 w1) := Lib.hid (by rw [← hw1]; exact (Ext.refl W0).alloc _)
    have HSB : Hid (Blk w1 W0.heap.size 9 signV) := Lib.hid (by rw [← hw1]; exact Blk.new W0 _ _)
    clear hw1 p0 p1 p2 p3 f0 hlt HEW B0
    have B0 : Hid (Blk w1 w.heap.size 31 #[.int .i64 0, .string ⟨#[]⟩, .int .i64 0, .int .i64 0]) := Lib.hid (b0.out.ext HE1.out)
    have p0 : w1.cell? ⟨w.heap.size, 0, none⟩ = some (.int .i64 0) := B0.out.cell 0
    have p1 : w1.cell? ⟨w.heap.size, 1, none⟩ = some (.string ⟨#[]⟩) := B0.out.cell 1
    have p2 : w1.cell? ⟨w.heap.size, 2, none⟩ = some (.int .i64 0) := B0.out.cell 2
    have p3 : w1.cell? ⟨w.heap.size, 3, none⟩ = some (.int .i64 0) := B0.out.cell 3
    have f0 : ∀ o, w1.frozen? ⟨w.heap.size, o, none⟩ = false := fun o => B0.out.frozen o
    have hlt : w.heap.size < w1.heap.size := B0.out.lt
    have HEW : Hid (Ext w w1) := Lib.hid (HE0.out.trans HE1.out)
    go_wp2_with fail
    go_loopw [14] (fun v wr => ∃ (k j : Nat), v = .int .i64 (k : Int) ∧ k ≤ 24 ∧ wr = w1.drewN j ∧ Hid ((signL.drop k).find? (fun x => preB x (c :: t)) = signL.find? fun x => preB x (c :: t))) (fun v _ => 24 - (intOf v).toNat)
    case atStart => exact ⟨0, 0, rfl, by omega, rfl, Lib.hid rfl⟩
    case round =>
      obtain ⟨k, j, rfl, hk, rfl, HK⟩ := hrel
      by_cases hkn : k < 24
      · have d1 : decide ((k : Int) < 24) = true := decide_eq_true (by omega)
        have d1n : decide (k < 24) = true := decide_eq_true hkn
        have hkl : k < signL.length := hkn
        obtain ⟨x, hx⟩ : ∃ x, signL[k]'hkl = x := ⟨_, rfl⟩
        have hcx : w1.cell? ⟨W0.heap.size, k, none⟩ = some (.string ⟨x.toArray⟩) := by
          rw [HSB.out.cell, signV_get k hkn]
          rw [← hx, List.getD_eq_getElem?_getD, signW, List.getElem?_map, List.getElem?_eq_getElem hkl]; rfl
        have hK := HK.out
        rw [List.drop_eq_getElem_cons hkl, hx, List.find?_cons] at hK
        have hxl : x.length ≤ 2 ∧ 1 ≤ x.length := sign_len (by rw [← hx]; exact List.getElem_mem _)
        have hxs : (⟨x.toArray⟩ : ByteArray).size = x.length := rfl
        obtain ⟨j2, hj2⟩ : ∃ j2, x.length = j2 := ⟨_, rfl⟩
        rw [hj2] at hxl hxs
        have HKK := Lib.hid hK
        have HJ2 := Lib.hid hj2
        clear hx hK HK hj2
        by_cases hfit : a + j2 ≤ n
        · have d2 : decide ((a : Int) + (j2 : Int) ≤ (n : Int)) = true := decide_eq_true (by omega)
          have hpe : ((s.extract a (a + j2)).toList == x) = preB x (c :: t) := by
            rw [Lib.toList_data, Lib.extract_data, HL.out, HD.out, Nat.add_sub_cancel_left, ← HJ2.out]
            have h1 := Lib.hasPrefix_of_take (c :: t) x
            have h2 : decide (x.length ≤ (c :: t).length) = true := decide_eq_true (by
              have h3 : (c :: t).length = n - a := by rw [← HD.out, List.length_drop, HLL.out]
              rw [HJ2.out]; omega)
            rw [h2, Bool.true_and] at h1
            exact h1
          obtain ⟨pb, hpb⟩ : ∃ pb, preB x (c :: t) = pb := ⟨_, rfl⟩
          have hK := HKK.out
          rw [hpb] at hK hpe
          have HK3 := Lib.hid hK
          clear hK hpb
          cases pb
          · go_wp2_with fail
            go_quiet (fail)
            go_wp2_with fail
            go_roundw
            case rel => exact ⟨k + 1, j + nq, by go_num, by omega, by first | rfl | exact drewN_add _ _ _, HK3⟩
            case measure => simp [intOf]; omega
          · have HRR : Hid (wordP (c :: t) = some (⟨4, x, 0, 0⟩, x.length)) := Lib.hid (by rw [HW.out, ← HK3.out]; rfl)
            go_wp2_with fail
            go_quiet (fail)
            go_wp2_with fail
            refine bodyPost_ret (v := .tuple #[wdV 4 0 (a : Int) ⟨x.toArray⟩, .int .i64 ((a : Int) + (j2 : Int))]) (by simp [results, Tryd.results23, go_sem, wdV, *]) rfl ⟨?_, ?_⟩
            · rw [HRR.out, HJ2.out]; exact ret2_of ⟨rfl, int_eq (by omega)⟩
            · repeat (first | exact HEW.out | exact HEW.out.drewN _ | exact (HEW.out.drewN _).drewN _ | refine Ext.setCell ?_ (by simp) _)
        · have d2 : decide ((a : Int) + (j2 : Int) ≤ (n : Int)) = false := decide_eq_false (by omega)
          have hpb : preB x (c :: t) = false := by
            cases h : preB x (c :: t) with
            | false => rfl
            | true =>
              have h1 := pre_len x (c :: t) h
              have h3 : (c :: t).length = n - a := by rw [← HD.out, List.length_drop, HLL.out]
              have h4 := HJ2.out
              omega
          have hK := HKK.out
          rw [hpb] at hK
          have HK3 := Lib.hid hK
          clear hK hpb
          go_wp2_with fail
          go_quiet (fail)
          go_wp2_with fail
          go_roundw
          case rel => exact ⟨k + 1, j + nq, by go_num, by omega, by first | rfl | exact drewN_add _ _ _, HK3⟩
          case measure => simp [intOf]; omega
      · obtain rfl : k = 24 := by omega
        have hK := HK.out
        have HRR : Hid (wordP (c :: t) = none) := Lib.hid (by rw [HW.out, ← hK]; rfl)
        clear hK
        go_wp2_with fail
        refine bodyPost_ret (v := .tuple #[wdV 0 0 0 ⟨#[]⟩, .int .i64 0]) (by simp [results, Tryd.results23, go_sem, wdV, *]) rfl ⟨?_, ?_⟩
        · rw [HRR.out]; rfl
        · repeat (first | exact HEW.out.drewN _ | refine Ext.setCell ?_ (by simp) _)
theorem rword_any (w : World) (s : ByteArray) (a : Nat) (ha : a < s.size) (hmax : s.size ≤ 140737488355000) :
    Calls Tryd.prog 23 #[.string s, .int .i64 (a : Int)] w fun e w' => e = .returned (rwrdV a (wordP (s.data.toList.drop a))) ∧ Ext w w' := by
  obtain ⟨l, hl⟩ : ∃ l, s.data.toList.drop a = l := ⟨_, rfl⟩
  rw [hl]
  cases l with
  | nil =>
    have h := congrArg List.length hl
    rw [List.length_drop] at h
    have e : s.data.toList.length = s.size := rfl
    rw [e] at h
    simp at h
    omega
  | cons c t =>
    by_cases h0 : 0 < runP (c :: t)
    · have hw : wrdB c = true := by
        cases h : wrdB c with
        | true => rfl
        | false =>
          have e : runP (c :: t) = 0 := by show (if wrdB c = true then runP t + 1 else 0) = 0; rw [h]; simp
          omega
      cases hd : digB c with
      | true => exact rword_dig_any w s a c t hl hmax h0 hd
      | false => exact rword_let_any w s a c t hl hmax h0 (by unfold wrdB at hw; rw [hd, Bool.or_false] at hw; exact hw)
    · by_cases h1 : c.toNat = 39
      · exact rword_q39_any w s a c t hl hmax (by omega) h1
      by_cases h2 : c.toNat = 34
      · exact rword_q34_any w s a c t hl hmax (by omega) h2
      · exact rword_sign_any w s a c t hl hmax (by omega) h1 h2
end Go.Proofs.YthknpnhiijbgfaaDoor
