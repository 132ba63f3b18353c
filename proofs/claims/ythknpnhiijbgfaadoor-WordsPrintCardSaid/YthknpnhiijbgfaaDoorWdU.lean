/- Words: a text with its bytes and backslashes, in the document. -/
import Derived.Test.YthknpnhiijbgfaaDoorWdQ
namespace Go.Proofs.YthknpnhiijbgfaaDoor
open Go.RowKit
set_option linter.unusedVariables false
set_option linter.unusedSimpArgs false

def rtxtV (a : Nat) : Option (List UInt8 × Nat) → Value
  | none => .tuple #[.string ⟨#[]⟩, .int .i64 0]
  | some (x, n) => .tuple #[.string ⟨x.toArray⟩, .int .i64 ((a + n + 1 : Nat) : Int)]
set_option maxRecDepth 100000 in
set_option maxHeartbeats 8000000 in
theorem rtext_any (w : World) (s : ByteArray) (a : Nat) (q : UInt8) (t : List UInt8) (hs : s.data.toList.drop a = q :: t) (hmax : s.size ≤ 140737488355000) : Calls Tryd.prog 47 #[.string s, .int .i64 (a : Int)] w fun e w' => e = .returned (rtxtV a (textP q t)) ∧ Ext w w' := by
  obtain ⟨n, hn⟩ : ∃ n, s.size = n := ⟨_, rfl⟩
  obtain ⟨l, hL⟩ : ∃ l, s.data.toList = l := ⟨_, rfl⟩
  have hl : l.length = n := by rw [← hL]; exact hn
  have hlq : l.drop a = q :: t := by rw [← hL, hs]
  have han : a < n := by
    rcases Nat.lt_or_ge a n with h | h
    · exact h
    · rw [List.drop_eq_nil_of_le (by omega)] at hlq; cases hlq
  have hlt : l.drop (a + 1) = t := by rw [← List.drop_drop, hlq]; rfl
  obtain ⟨r, hr⟩ : ∃ r, textP q t = r := ⟨_, rfl⟩
  rw [hr]
  have hsa : a < s.size := by omega
  have hqa : s[a]'hsa = q := by
    have h1 : l[a]'(by omega) = q := by
      have h2 := List.drop_eq_getElem_cons (l := l) (i := a) (by omega)
      rw [hlq] at h2
      injection h2 with h3 h4
      exact h3.symm
    rw [← str_get s a hsa, get_of hL]; exact h1
  have HR := Lib.hid hr
  have HL := Lib.hid hL
  have HLL := Lib.hid hl
  have HT := Lib.hid hlt
  have HN := Lib.hid hn
  clear hr hL hl hlq hlt hs
  go_enter Tryd.func47, Tryd.ntmps47
  go_wp2_with fail
  go_loopw [6, 7] (fun v6 v7 wr => ∃ (k : Nat) (v : Value) (acc : List UInt8), v7 = .int .i64 (k : Int) ∧ v = v6 ∧ a + 1 ≤ k ∧ k ≤ n ∧ acc.length ≤ k ∧ Hid (Ext w wr) ∧ Hid (OwnB wr w.heap.size v acc) ∧ Hid (r = (textP q (l.drop k)).map fun x => (acc ++ x.1, x.2 + (k - (a + 1))))) (fun _ v7 _ => n - (intOf v7).toNat)
  case atStart => exact ⟨a + 1, _, [], by go_num, rfl, Nat.le_refl _, by omega, by simp, Lib.hid (Ext.refl _), Lib.hid (OwnB.nil _ _), Lib.hid (by rw [HT.out, HR.out]; cases r <;> simp)⟩
  case round =>
    obtain ⟨k, v, acc, rfl, rfl, hk1, hk, hacc, HE, HO, HK⟩ := hrel
    by_cases hkn : k < n
    · have d1 : decide ((k : Int) < (s.size : Int)) = true := decide_eq_true (by omega)
      have d1n : decide (k < s.size) = true := decide_eq_true (by omega)
      have hks : k < s.size := by omega
      obtain ⟨c, hc⟩ : ∃ c, s[k]'hks = c := ⟨_, rfl⟩
      obtain ⟨m, hm⟩ : ∃ m, l.drop (k + 1) = m := ⟨_, rfl⟩
      have hd : l.drop k = c :: m := by rw [List.drop_eq_getElem_cons (by have := HLL.out; omega), ← hc, hm]; congr 1; rw [← str_get]; exact get_of HL.out.symm _
      have hdl : m.length = n - (k + 1) := by rw [← hm, List.length_drop, HLL.out]
      have HM := Lib.hid hm
      have HDL := Lib.hid hdl
      have hK := HK.out
      rw [hd] at hK
      clear hd hm hdl HK
      by_cases hcq : c = q
      · have f0 : ((c.toNat : Int) == (q.toNat : Int)) = true := by rw [hcq]; simp
        have hres : Hid (r = some (acc, k - a)) := Lib.hid (by rw [hK, hcq, textP_end]; simp; omega)
        obtain ⟨qa, cp, rfl⟩ := HO.out.slice
        have cv := HO.out.conv
        have HCQ := Lib.hid hcq
        clear hK hcq
        go_wp2_with fail
        go_ret2
        exact ⟨by rw [hres.out]; exact ret2_of ⟨rfl, int_eq (by omega)⟩, HE.out⟩
      have f0 : ((c.toNat : Int) == (q.toNat : Int)) = false := by rw [beq_eq_false_iff_ne]; exact fun e => hcq (u8_eq (by omega))
      by_cases h10 : c.toNat = 10
      · have f1 : ((c.toNat : Int) == 10) = true := by rw [h10]; rfl
        have hres : Hid (r = none) := Lib.hid (by rw [hK, text_nl hcq h10]; rfl)
        have HCQ := Lib.hid hcq
        have H10 := Lib.hid h10
        clear hK hcq h10
        go_wp2_with fail
        go_ret2
        exact ⟨by rw [hres.out]; rfl, HE.out⟩
      have f1 : ((c.toNat : Int) == 10) = false := by rw [beq_eq_false_iff_ne]; omega
      by_cases h92 : c.toNat = 92
      · have f2 : ((c.toNat : Int) == 92) = true := by rw [h92]; rfl
        have f2n : ((c.toNat : Int) != 92) = false := by rw [h92]; rfl
        have HCQ := Lib.hid hcq
        have H10 := Lib.hid h10
        have H92 := Lib.hid h92
        have HKK := Lib.hid hK
        clear hK hcq h10 h92
        have hW : w.heap.size ≤ wr.heap.size := by have h1 := HE.out.le; omega
        have HW := Lib.hid hW
        clear hW
        by_cases hk2 : k + 1 < n
        · have d2 : decide ((s.size : Int) ≤ (k : Int) + 1) = false := decide_eq_false (by omega)
          have d2n : decide (s.size ≤ k + 1) = false := decide_eq_false (by omega)
          have hks2 : k + 1 < s.size := by omega
          obtain ⟨e, he⟩ : ∃ e, s[k + 1]'hks2 = e := ⟨_, rfl⟩
          obtain ⟨m2, hm2⟩ : ∃ m2, l.drop (k + 1 + 1) = m2 := ⟨_, rfl⟩
          have hmm : m = e :: m2 := by rw [← HM.out, List.drop_eq_getElem_cons (by have := HLL.out; omega), ← he, hm2]; congr 1; rw [← str_get]; exact get_of HL.out.symm _
          have HMM := Lib.hid hmm
          have HM2 := Lib.hid hm2
          have hml : m2.length = n - (k + 1 + 1) := by rw [← hm2, List.length_drop, HLL.out]
          have HML := Lib.hid hml
          clear hmm hm2 hml
          by_cases g0 : e.toNat = 110
          · have u0 : ((e.toNat : Int) == 110) = true := by rw [g0]; rfl
            have hy : escP m = some (10, 1) := by
              rw [HMM.out]; unfold escP; dsimp only; rw [if_pos (by omega)]
            have HK2 : Hid (r = (textP q (l.drop (k + 1 + 1))).map fun x => ((acc ++ [(10 : UInt8)]) ++ x.1, x.2 + (k + 1 + 1 - (a + 1)))) := Lib.hid (by
              rw [HKK.out, text_esc HCQ.out H10.out H92.out hy, map_acc acc _ 10 (k - (a + 1)) 2 (k + 1 + 1 - (a + 1)) (by omega), ← List.drop_drop, HM.out])
            obtain ⟨v', w2, hrun, happ⟩ := app_lit wr 52 w.heap.size v acc [(10 : UInt8)] HO.out HW.out (by simp; omega)
            have HRUN : Hid ((Builtin.append_ #[52, 52] 52 #[v, .slice (some ⟨wr.heap.size, 0, none⟩) 1 1]).run Tryd.prog (wr.alloc (.cells #[.int .u8 10] 5)) = .ok v' w2) := Lib.hid hrun
            have HA := Lib.hid happ
            have HE2 : Hid (Ext w w2) := Lib.hid (happ.ext (HE.out.alloc _) (Nat.le_refl _))
            have G := Lib.hid g0
            clear hrun happ hy g0
            go_wp2_with (at_builtin; refine wpList_append_run rfl _ _ 52 rfl _ _ _ _ rfl rfl HRUN.out ?_)
            go_roundw
            case rel => exact ⟨k + 1 + 1, v', acc ++ [10], by go_num, rfl, by omega, by omega, by simp; omega, HE2, Lib.hid HA.out.own, HK2⟩
            case measure => simp [intOf]; omega
          have u0 : ((e.toNat : Int) == 110) = false := by rw [beq_eq_false_iff_ne]; omega
          by_cases g1 : e.toNat = 116
          · have u1 : ((e.toNat : Int) == 116) = true := by rw [g1]; rfl
            have hy : escP m = some (9, 1) := by
              rw [HMM.out]; unfold escP; dsimp only; rw [if_neg (by omega), if_pos (by omega)]
            have HK2 : Hid (r = (textP q (l.drop (k + 1 + 1))).map fun x => ((acc ++ [(9 : UInt8)]) ++ x.1, x.2 + (k + 1 + 1 - (a + 1)))) := Lib.hid (by
              rw [HKK.out, text_esc HCQ.out H10.out H92.out hy, map_acc acc _ 9 (k - (a + 1)) 2 (k + 1 + 1 - (a + 1)) (by omega), ← List.drop_drop, HM.out])
            obtain ⟨v', w2, hrun, happ⟩ := app_lit wr 52 w.heap.size v acc [(9 : UInt8)] HO.out HW.out (by simp; omega)
            have HRUN : Hid ((Builtin.append_ #[52, 52] 52 #[v, .slice (some ⟨wr.heap.size, 0, none⟩) 1 1]).run Tryd.prog (wr.alloc (.cells #[.int .u8 9] 5)) = .ok v' w2) := Lib.hid hrun
            have HA := Lib.hid happ
            have HE2 : Hid (Ext w w2) := Lib.hid (happ.ext (HE.out.alloc _) (Nat.le_refl _))
            have G := Lib.hid g1
            clear hrun happ hy g1
            go_wp2_with (at_builtin; refine wpList_append_run rfl _ _ 52 rfl _ _ _ _ rfl rfl HRUN.out ?_)
            go_roundw
            case rel => exact ⟨k + 1 + 1, v', acc ++ [9], by go_num, rfl, by omega, by omega, by simp; omega, HE2, Lib.hid HA.out.own, HK2⟩
            case measure => simp [intOf]; omega
          have u1 : ((e.toNat : Int) == 116) = false := by rw [beq_eq_false_iff_ne]; omega
          by_cases g2 : e.toNat = 114
          · have u2 : ((e.toNat : Int) == 114) = true := by rw [g2]; rfl
            have hy : escP m = some (13, 1) := by
              rw [HMM.out]; unfold escP; dsimp only; rw [if_neg (by omega), if_neg (by omega), if_pos (by omega)]
            have HK2 : Hid (r = (textP q (l.drop (k + 1 + 1))).map fun x => ((acc ++ [(13 : UInt8)]) ++ x.1, x.2 + (k + 1 + 1 - (a + 1)))) := Lib.hid (by
              rw [HKK.out, text_esc HCQ.out H10.out H92.out hy, map_acc acc _ 13 (k - (a + 1)) 2 (k + 1 + 1 - (a + 1)) (by omega), ← List.drop_drop, HM.out])
            obtain ⟨v', w2, hrun, happ⟩ := app_lit wr 52 w.heap.size v acc [(13 : UInt8)] HO.out HW.out (by simp; omega)
            have HRUN : Hid ((Builtin.append_ #[52, 52] 52 #[v, .slice (some ⟨wr.heap.size, 0, none⟩) 1 1]).run Tryd.prog (wr.alloc (.cells #[.int .u8 13] 5)) = .ok v' w2) := Lib.hid hrun
            have HA := Lib.hid happ
            have HE2 : Hid (Ext w w2) := Lib.hid (happ.ext (HE.out.alloc _) (Nat.le_refl _))
            have G := Lib.hid g2
            clear hrun happ hy g2
            go_wp2_with (at_builtin; refine wpList_append_run rfl _ _ 52 rfl _ _ _ _ rfl rfl HRUN.out ?_)
            go_roundw
            case rel => exact ⟨k + 1 + 1, v', acc ++ [13], by go_num, rfl, by omega, by omega, by simp; omega, HE2, Lib.hid HA.out.own, HK2⟩
            case measure => simp [intOf]; omega
          have u2 : ((e.toNat : Int) == 114) = false := by rw [beq_eq_false_iff_ne]; omega
          by_cases g3 : e.toNat = 92
          · have u3 : ((e.toNat : Int) == 92) = true := by rw [g3]; rfl
            have hy : escP m = some (e, 1) := by
              rw [HMM.out]; unfold escP; dsimp only; rw [if_neg (by omega), if_neg (by omega), if_neg (by omega), if_pos (by omega)]
            have HK2 : Hid (r = (textP q (l.drop (k + 1 + 1))).map fun x => ((acc ++ [(e : UInt8)]) ++ x.1, x.2 + (k + 1 + 1 - (a + 1)))) := Lib.hid (by
              rw [HKK.out, text_esc HCQ.out H10.out H92.out hy, map_acc acc _ e (k - (a + 1)) 2 (k + 1 + 1 - (a + 1)) (by omega), ← List.drop_drop, HM.out])
            obtain ⟨v', w2, hrun, happ⟩ := app_lit wr 52 w.heap.size v acc [(e : UInt8)] HO.out HW.out (by simp; omega)
            have HRUN : Hid ((Builtin.append_ #[52, 52] 52 #[v, .slice (some ⟨wr.heap.size, 0, none⟩) 1 1]).run Tryd.prog (wr.alloc (.cells #[.int .u8 (e.toNat : Int)] 5)) = .ok v' w2) := Lib.hid hrun
            have HA := Lib.hid happ
            have HE2 : Hid (Ext w w2) := Lib.hid (happ.ext (HE.out.alloc _) (Nat.le_refl _))
            have G := Lib.hid g3
            clear hrun happ hy g3
            go_wp2_with (at_builtin; refine wpList_append_run rfl _ _ 52 rfl _ _ _ _ rfl rfl HRUN.out ?_)
            go_roundw
            case rel => exact ⟨k + 1 + 1, v', acc ++ [e], by go_num, rfl, by omega, by omega, by simp; omega, HE2, Lib.hid HA.out.own, HK2⟩
            case measure => simp [intOf]; omega
          have u3 : ((e.toNat : Int) == 92) = false := by rw [beq_eq_false_iff_ne]; omega
          by_cases g4 : e.toNat = 39
          · have u4 : ((e.toNat : Int) == 39) = true := by rw [g4]; rfl
            have hy : escP m = some (e, 1) := by
              rw [HMM.out]; unfold escP; dsimp only; rw [if_neg (by omega), if_neg (by omega), if_neg (by omega), if_pos (by omega)]
            have HK2 : Hid (r = (textP q (l.drop (k + 1 + 1))).map fun x => ((acc ++ [(e : UInt8)]) ++ x.1, x.2 + (k + 1 + 1 - (a + 1)))) := Lib.hid (by
              rw [HKK.out, text_esc HCQ.out H10.out H92.out hy, map_acc acc _ e (k - (a + 1)) 2 (k + 1 + 1 - (a + 1)) (by omega), ← List.drop_drop, HM.out])
            obtain ⟨v', w2, hrun, happ⟩ := app_lit wr 52 w.heap.size v acc [(e : UInt8)] HO.out HW.out (by simp; omega)
            have HRUN : Hid ((Builtin.append_ #[52, 52] 52 #[v, .slice (some ⟨wr.heap.size, 0, none⟩) 1 1]).run Tryd.prog (wr.alloc (.cells #[.int .u8 (e.toNat : Int)] 5)) = .ok v' w2) := Lib.hid hrun
            have HA := Lib.hid happ
            have HE2 : Hid (Ext w w2) := Lib.hid (happ.ext (HE.out.alloc _) (Nat.le_refl _))
            have G := Lib.hid g4
            clear hrun happ hy g4
            go_wp2_with (at_builtin; refine wpList_append_run rfl _ _ 52 rfl _ _ _ _ rfl rfl HRUN.out ?_)
            go_roundw
            case rel => exact ⟨k + 1 + 1, v', acc ++ [e], by go_num, rfl, by omega, by omega, by simp; omega, HE2, Lib.hid HA.out.own, HK2⟩
            case measure => simp [intOf]; omega
          have u4 : ((e.toNat : Int) == 39) = false := by rw [beq_eq_false_iff_ne]; omega
          by_cases g5 : e.toNat = 34
          · have u5 : ((e.toNat : Int) == 34) = true := by rw [g5]; rfl
            have hy : escP m = some (e, 1) := by
              rw [HMM.out]; unfold escP; dsimp only; rw [if_neg (by omega), if_neg (by omega), if_neg (by omega), if_pos (by omega)]
            have HK2 : Hid (r = (textP q (l.drop (k + 1 + 1))).map fun x => ((acc ++ [(e : UInt8)]) ++ x.1, x.2 + (k + 1 + 1 - (a + 1)))) := Lib.hid (by
              rw [HKK.out, text_esc HCQ.out H10.out H92.out hy, map_acc acc _ e (k - (a + 1)) 2 (k + 1 + 1 - (a + 1)) (by omega), ← List.drop_drop, HM.out])
            obtain ⟨v', w2, hrun, happ⟩ := app_lit wr 52 w.heap.size v acc [(e : UInt8)] HO.out HW.out (by simp; omega)
            have HRUN : Hid ((Builtin.append_ #[52, 52] 52 #[v, .slice (some ⟨wr.heap.size, 0, none⟩) 1 1]).run Tryd.prog (wr.alloc (.cells #[.int .u8 (e.toNat : Int)] 5)) = .ok v' w2) := Lib.hid hrun
            have HA := Lib.hid happ
            have HE2 : Hid (Ext w w2) := Lib.hid (happ.ext (HE.out.alloc _) (Nat.le_refl _))
            have G := Lib.hid g5
            clear hrun happ hy g5
            go_wp2_with (at_builtin; refine wpList_append_run rfl _ _ 52 rfl _ _ _ _ rfl rfl HRUN.out ?_)
            go_roundw
            case rel => exact ⟨k + 1 + 1, v', acc ++ [e], by go_num, rfl, by omega, by omega, by simp; omega, HE2, Lib.hid HA.out.own, HK2⟩
            case measure => simp [intOf]; omega
          have u5 : ((e.toNat : Int) == 34) = false := by rw [beq_eq_false_iff_ne]; omega
          have hnb : Hid (¬ (e.toNat = 92 ∨ e.toNat = 39 ∨ e.toNat = 34)) := Lib.hid (by omega)
          have E0 := Lib.hid g0
          have E1 := Lib.hid g1
          have E2 := Lib.hid g2
          clear g0 g1 g2 g3 g4 g5
          by_cases h3 : n ≤ k + 1 + 2
          · have d3 : decide ((s.size : Int) ≤ (k : Int) + 1 + 2) = true := decide_eq_true (by omega)
            have d3n : decide (s.size ≤ k + 1 + 2) = true := decide_eq_true (by omega)
            have hres : Hid (r = none) := Lib.hid (by
              rw [HKK.out, text_bad HCQ.out H10.out H92.out (by rw [HMM.out]; exact esc_short rfl E0.out E1.out E2.out hnb.out (by have := HML.out; omega))]; rfl)
            go_wp2_with fail
            go_ret2
            exact ⟨by rw [hres.out]; rfl, HE.out⟩
          have d3 : decide ((s.size : Int) ≤ (k : Int) + 1 + 2) = false := decide_eq_false (by omega)
          have d3n : decide (s.size ≤ k + 1 + 2) = false := decide_eq_false (by omega)
          have hs1 : k + 1 + 1 < s.size := by omega
          have hs2 : k + 1 + 2 < s.size := by omega
          obtain ⟨e1, he1⟩ : ∃ e, s[k + 1 + 1]'hs1 = e := ⟨_, rfl⟩
          obtain ⟨e2, he2⟩ : ∃ e, s[k + 1 + 2]'hs2 = e := ⟨_, rfl⟩
          have HTH : Hid (∃ m3, m = e :: e1 :: e2 :: m3) := Lib.hid (by
            refine ⟨l.drop (k + 1 + 2 + 1), ?_⟩
            rw [HMM.out, ← HM2.out, List.drop_eq_getElem_cons (by have := HLL.out; omega), List.drop_eq_getElem_cons (l := l) (i := k + 1 + 1 + 1) (by have := HLL.out; omega)]
            congr 1
            rw [← he1, ← he2]
            congr 1
            · rw [← str_get]; exact get_of HL.out.symm _
            · congr 1
              rw [← str_get]; exact get_of HL.out.symm _)
          have HEE : Hid (escP m = if digB e = true ∧ digB e1 = true ∧ digB e2 = true then
            (if 100 * (e.toNat - 48) + 10 * (e1.toNat - 48) + (e2.toNat - 48) ≤ 255 then some (UInt8.ofNat (100 * (e.toNat - 48) + 10 * (e1.toNat - 48) + (e2.toNat - 48)), 3) else none) else none) := Lib.hid (by
            obtain ⟨m3, h⟩ := HTH.out
            exact esc_three h E0.out E1.out E2.out hnb.out)
          obtain ⟨b0, hb0⟩ : ∃ b, digB e = b := ⟨_, rfl⟩
          obtain ⟨b1, hb1⟩ : ∃ b, digB e1 = b := ⟨_, rfl⟩
          obtain ⟨b2, hb2⟩ : ∃ b, digB e2 = b := ⟨_, rfl⟩
          have B0 := Lib.hid hb0
          have B1 := Lib.hid hb1
          have B2 := Lib.hid hb2
          clear hb0 hb1 hb2 HMM
          by_cases hall : b0 = true ∧ b1 = true ∧ b2 = true
          · obtain ⟨rfl, rfl, rfl⟩ := hall
            have x0 : 48 ≤ e.toNat ∧ e.toNat ≤ 57 := by simpa [digB] using B0.out
            have x1 : 48 ≤ e1.toNat ∧ e1.toNat ≤ 57 := by simpa [digB] using B1.out
            have x2 : 48 ≤ e2.toNat ∧ e2.toNat ≤ 57 := by simpa [digB] using B2.out
            obtain ⟨a0, ha0⟩ : ∃ a : Nat, e.toNat = a + 48 := ⟨e.toNat - 48, by omega⟩
            obtain ⟨a1, ha1⟩ : ∃ a : Nat, e1.toNat = a + 48 := ⟨e1.toNat - 48, by omega⟩
            obtain ⟨a2, ha2⟩ : ∃ a : Nat, e2.toNat = a + 48 := ⟨e2.toNat - 48, by omega⟩
            have HV : Hid (escP m = if 100 * a0 + 10 * a1 + a2 ≤ 255 then some (UInt8.ofNat (100 * a0 + 10 * a1 + a2), 3) else none) := Lib.hid (by
              rw [HEE.out, B0.out, B1.out, B2.out, if_pos ⟨rfl, rfl, rfl⟩, ha0, ha1, ha2]
              simp only [Nat.add_sub_cancel])
            have Y0 : Hid ((e.toNat : Int) = (a0 : Int) + 48) := Lib.hid (by omega)
            have Y1 : Hid ((e1.toNat : Int) = (a1 : Int) + 48) := Lib.hid (by omega)
            have Y2 : Hid ((e2.toNat : Int) = (a2 : Int) + 48) := Lib.hid (by omega)
            have z0 : a0 ≤ 9 := by omega
            have z1 : a1 ≤ 9 := by omega
            have z2 : a2 ≤ 9 := by omega
            clear ha0 ha1 ha2 x0 x1 x2
            go_wp2_with fail
            refine (rdigit_any _ e).mono ?_
            rintro e w' ⟨rfl, rfl⟩
            rw [B0.out]
            go_wp2_with fail
            refine (rdigit_any _ e1).mono ?_
            rintro e w' ⟨rfl, rfl⟩
            rw [B1.out]
            go_wp2_with fail
            refine (rdigit_any _ e2).mono ?_
            rintro e w' ⟨rfl, rfl⟩
            rw [B2.out]
            go_wp2_with fail
            have y0 := Y0.out
            have y1 := Y1.out
            have y2 := Y2.out
            go_quiet (fail)
            clear y0 y1 y2
            by_cases hv : 100 * a0 + 10 * a1 + a2 ≤ 255
            · have hvi : 100 * (a0 : Int) + 10 * (a1 : Int) + (a2 : Int) ≤ 255 := by omega
              have hv0 : 0 ≤ 100 * (a0 : Int) + 10 * (a1 : Int) + (a2 : Int) := by omega
              have dv : decide (255 < 100 * (a0 : Int) + 10 * (a1 : Int) + (a2 : Int)) = false := decide_eq_false (by omega)
              have hy : escP m = some (UInt8.ofNat (100 * a0 + 10 * a1 + a2), 3) := by rw [HV.out, if_pos hv]
              obtain ⟨bb, hbb⟩ : ∃ bb, UInt8.ofNat (100 * a0 + 10 * a1 + a2) = bb := ⟨_, rfl⟩
              have hbn : (bb.toNat : Int) = 100 * (a0 : Int) + 10 * (a1 : Int) + (a2 : Int) := by rw [← hbb, u8n]; omega
              rw [hbb] at hy
              have HK2 : Hid (r = (textP q (l.drop (k + 1 + 3))).map fun x => ((acc ++ [bb]) ++ x.1, x.2 + (k + 1 + 3 - (a + 1)))) := Lib.hid (by
                rw [HKK.out, text_esc HCQ.out H10.out H92.out hy, map_acc acc _ bb (k - (a + 1)) 4 (k + 1 + 3 - (a + 1)) (by omega), ← List.drop_drop, HM.out])
              have hO2 : OwnB (wr.drewN nq) w.heap.size v acc := HO.out
              obtain ⟨v', w2, hrun, happ⟩ := app_lit (wr.drewN nq) 52 w.heap.size v acc [bb] hO2 HW.out (by simp; omega)
              have HRUN : Hid ((Builtin.append_ #[52, 52] 52 #[v, .slice (some ⟨wr.heap.size, 0, none⟩) 1 1]).run Tryd.prog ((wr.drewN nq).alloc (.cells #[.int .u8 (100 * (a0 : Int) + 10 * (a1 : Int) + (a2 : Int))] 5)) = .ok v' w2) := Lib.hid (by rw [← hbn]; exact hrun)
              have HA := Lib.hid happ
              have HE2 : Hid (Ext w w2) := Lib.hid (happ.ext ((HE.out.drewN nq).alloc _) (Nat.le_refl _))
              have HX3 : Hid (k + 1 + 3 ≤ n) := Lib.hid (by omega)
              clear hrun happ hy hbb hbn hv hO2
              go_wp2_with (at_builtin; refine wpList_append_run rfl _ _ 52 rfl _ _ _ _ rfl rfl HRUN.out ?_)
              go_roundw
              case rel => exact ⟨k + 1 + 3, v', acc ++ [bb], by go_num, rfl, by omega, HX3.out, by simp; omega, HE2, Lib.hid HA.out.own, HK2⟩
              case measure => simp [intOf]; omega
            · have dv : decide (255 < 100 * (a0 : Int) + 10 * (a1 : Int) + (a2 : Int)) = true := decide_eq_true (by omega)
              have hres : Hid (r = none) := Lib.hid (by
                rw [HKK.out, text_bad HCQ.out H10.out H92.out (by rw [HV.out, if_neg hv])]; rfl)
              clear hv
              go_wp2_with fail
              go_ret2
              exact ⟨by rw [hres.out]; rfl, HE.out.drewN _⟩
          · have hres : Hid (r = none) := Lib.hid (by
              rw [HKK.out, text_bad HCQ.out H10.out H92.out (by rw [HEE.out, if_neg (by rw [B0.out, B1.out, B2.out]; exact hall)])]; rfl)
            cases b0
            · go_wp2_with fail
              refine (rdigit_any _ e).mono ?_
              rintro e w' ⟨rfl, rfl⟩
              rw [B0.out]
              go_wp2_with fail
              go_ret2
              exact ⟨by rw [hres.out]; rfl, HE.out⟩
            cases b1
            · go_wp2_with fail
              refine (rdigit_any _ e).mono ?_
              rintro e w' ⟨rfl, rfl⟩
              rw [B0.out]
              go_wp2_with fail
              refine (rdigit_any _ e1).mono ?_
              rintro e w' ⟨rfl, rfl⟩
              rw [B1.out]
              go_wp2_with fail
              go_ret2
              exact ⟨by rw [hres.out]; rfl, HE.out⟩
            cases b2
            · go_wp2_with fail
              refine (rdigit_any _ e).mono ?_
              rintro e w' ⟨rfl, rfl⟩
              rw [B0.out]
              go_wp2_with fail
              refine (rdigit_any _ e1).mono ?_
              rintro e w' ⟨rfl, rfl⟩
              rw [B1.out]
              go_wp2_with fail
              refine (rdigit_any _ e2).mono ?_
              rintro e w' ⟨rfl, rfl⟩
              rw [B2.out]
              go_wp2_with fail
              go_ret2
              exact ⟨by rw [hres.out]; rfl, HE.out⟩
            · exact absurd ⟨rfl, rfl, rfl⟩ hall
        · have d2 : decide ((s.size : Int) ≤ (k : Int) + 1) = true := decide_eq_true (by omega)
          have d2n : decide (s.size ≤ k + 1) = true := decide_eq_true (by omega)
          have hres : Hid (r = none) := Lib.hid (by
            have hm0 : m = [] := List.eq_nil_of_length_eq_zero (by have := HDL.out; omega)
            rw [HKK.out, text_bad HCQ.out H10.out H92.out (by rw [hm0]; rfl)]; rfl)
          go_wp2_with fail
          go_ret2
          exact ⟨by rw [hres.out]; rfl, HE.out⟩
      · have f2 : ((c.toNat : Int) == 92) = false := by rw [beq_eq_false_iff_ne]; omega
        have f2n : ((c.toNat : Int) != 92) = true := by simp [bne, f2]
        have HK2 : Hid (r = (textP q (l.drop (k + 1))).map fun x => ((acc ++ [c]) ++ x.1, x.2 + (k + 1 - (a + 1)))) := Lib.hid (by
          rw [hK, textP_plain m hcq h10 h92, map_acc acc _ c (k - (a + 1)) 1 (k + 1 - (a + 1)) (by omega), HM.out])
        obtain ⟨v', w2, hrun, happ⟩ := app_lit wr 52 w.heap.size v acc [c] HO.out (by have h1 := HE.out.le; omega) (by simp; omega)
        have HRUN := Lib.hid hrun
        have HA := Lib.hid happ
        have HE2 : Hid (Ext w w2) := Lib.hid (happ.ext (HE.out.alloc _) (Nat.le_refl _))
        have HCQ := Lib.hid hcq
        clear hrun happ hK hcq h10 h92
        go_wp2_with (at_builtin; refine wpList_append_run rfl _ _ 52 rfl _ _ _ _ rfl rfl HRUN.out ?_)
        go_roundw
        case rel => exact ⟨k + 1, v', acc ++ [c], by go_num, rfl, by omega, by omega, by simp; omega, HE2, Lib.hid HA.out.own, HK2⟩
        case measure => simp [intOf]; omega
    · obtain rfl : k = n := by omega
      have d1 : decide ((k : Int) < (s.size : Int)) = false := decide_eq_false (by omega)
      have d1n : decide (k < s.size) = false := decide_eq_false (by omega)
      have hres : Hid (r = none) := Lib.hid (by rw [HK.out, List.drop_eq_nil_of_le (by have := HLL.out; omega), text_end0]; rfl)
      go_wp2_with fail
      go_ret2
      exact ⟨by rw [hres.out]; rfl, HE.out⟩
end Go.Proofs.YthknpnhiijbgfaaDoor
