/- Words: a text as a word, in the document. -/
import Derived.Test.YthknpnhiijbgfaaDoorQuA
import Derived.Test.YthknpnhiijbgfaaDoorOwn
namespace Go.Proofs.YthknpnhiijbgfaaDoor
open Go.RowKit
set_option linter.unusedVariables false
set_option linter.unusedSimpArgs false

theorem own_lit (w : World) (m : List UInt8) (hm : m.length ≤ 1000) : OwnB (w.alloc (.cells (Lib.byteCells m).toArray 5)) w.heap.size (.slice (some ⟨w.heap.size, 0, none⟩) m.length m.length) m := by
  refine ⟨by rw [Lib.byteCells_length, Nat.mul_one], .inr ⟨w.heap.size, m.length, (Lib.byteCells m).toArray, rfl, Nat.le_refl _, Blk.new w _ _, Nat.le_refl _, by unfold maxLen; omega, by simp [Lib.byteCells_length], ?_⟩⟩
  rw [Nat.mul_one, List.take_of_length_le (by simp [Lib.byteCells_length])]
theorem four_cells (c : UInt8) : (Lib.byteCells [92, UInt8.ofNat (48 + c.toNat / 100), UInt8.ofNat (48 + c.toNat / 10 % 10), UInt8.ofNat (48 + c.toNat % 10)]).toArray = #[.int .u8 92, .int .u8 (48 + (c.toNat : Int) / 100), .int .u8 (48 + (c.toNat : Int) / 10 % 10), .int .u8 (48 + (c.toNat : Int) % 10)] := by
  have h := c.toNat_lt
  have e : ∀ n : Nat, n < 256 → (UInt8.ofNat n).toNat = n := fun n hn => by simp; omega
  simp only [Lib.byteCells, List.map_cons, List.map_nil]
  rw [e _ (by omega), e _ (by omega), e _ (by omega)]
  rfl
set_option maxRecDepth 100000 in
set_option maxHeartbeats 4000000 in
theorem rquote_any (w : World) (s : ByteArray) (hs : s.size ≤ 1048576) : Calls Tryd.prog 18 #[.string s] w fun e w' => e = .returned (.string ⟨(quoteP s.data.toList).toArray⟩) ∧ Ext w w' := by
  obtain ⟨n, hn⟩ : ∃ n, s.size = n := ⟨_, rfl⟩
  have hl : s.data.toList.length = n := hn
  obtain ⟨l, hL⟩ : ∃ l, s.data.toList = l := ⟨_, rfl⟩
  rw [hL] at hl ⊢
  rw [hn] at hs
  have HL := Lib.hid hL
  have HLL := Lib.hid hl
  clear hL hl
  have HO0 : Hid (OwnB (w.alloc (.cells #[.int .u8 39] 5)) w.heap.size (.slice (some ⟨w.heap.size, 0, none⟩) 1 1) [39]) := Lib.hid (own_lit w [39] (by simp))
  have HE0 : Hid (Ext w (w.alloc (.cells #[.int .u8 39] 5))) := Lib.hid ((Ext.refl w).alloc _)
  go_enter Tryd.func18, Tryd.ntmps18
  go_wp2_with fail
  go_loopw [4, 3] (fun i v3 wr => ∃ (v : Value) (k : Nat) (cur : List UInt8), v = v3 ∧ k ≤ n ∧ i = .int .i64 k ∧ Hid (39 :: (l.take k).flatMap quoB = cur) ∧ Hid (OwnB wr w.heap.size v cur) ∧ Hid (Ext w wr)) (fun i _ _ => n - (intOf i).toNat)
  case atStart => exact ⟨_, 0, [39], rfl, Nat.zero_le _, rfl, Lib.hid (by simp), HO0, HE0⟩
  case round =>
    obtain ⟨v, k, cur, rfl, hk, rfl, HC, HO, HE⟩ := hrel
    have hBs : w.heap.size ≤ wr.heap.size := HE.out.le
    have hcl : cur.length ≤ 4 * k + 1 := by
      rw [← HC.out, List.length_cons]
      have h1 := flat_len (l.take k)
      have h2 : (l.take k).length ≤ k := by rw [List.length_take]; omega
      omega
    by_cases hkn : k < n
    · have d1 : decide ((k : Int) < (n : Int)) = true := decide_eq_true (by omega)
      have d1n : decide (k < n) = true := decide_eq_true hkn
      have hks : k < s.size := by omega
      have hkl : k < l.length := by rw [HLL.out]; exact hkn
      obtain ⟨c, hc⟩ : ∃ c, s[k]'hks = c := ⟨_, rfl⟩
      have hlk : l[k] = c := by rw [← hc, ← str_get]; exact get_of HL.out.symm _
      have HN : Hid (39 :: (l.take (k + 1)).flatMap quoB = cur ++ quoB c) := Lib.hid (by rw [flat_snoc hkl, hlk, ← HC.out]; rfl)
      have hcn := c.toNat_lt
      clear hlk hkl HC
      by_cases e0 : c.toNat = 10
      · have f0 : ((c.toNat : Int) == 10) = true := by rw [e0]; rfl
        have HQ : Hid (quoB c = [92, 110]) := Lib.hid (by unfold quoB; simp [*])
        clear e0
        obtain ⟨v', w2, hrun, happ⟩ := app_lit wr 52 w.heap.size v cur [92, 110] HO.out hBs (by simp only [List.length_cons, List.length_nil]; omega)
        have HRUN : Hid ((Builtin.append_ #[52, 52] 52 #[v, .slice (some ⟨wr.heap.size, 0, none⟩) 2 2]).run Tryd.prog (wr.alloc (.cells #[.int .u8 92, .int .u8 110] 5)) = .ok v' w2) := Lib.hid hrun
        have HA := Lib.hid happ
        have HE2 : Hid (Ext w w2) := Lib.hid (happ.ext (HE.out.alloc _) (Nat.le_refl _))
        clear hrun happ
        go_wp2_with (at_builtin; refine wpList_append_run rfl _ _ 52 rfl _ _ _ _ rfl rfl HRUN.out ?_)
        go_roundw
        case rel => exact ⟨_, k + 1, _, rfl, hkn, by go_num, HN, Lib.hid (by rw [HQ.out]; exact HA.out.own), HE2⟩
        case measure => simp [intOf]; omega
      · have f0 : ((c.toNat : Int) == 10) = false := by rw [beq_eq_false_iff_ne]; omega
        by_cases e1 : c.toNat = 9
        · have f1 : ((c.toNat : Int) == 9) = true := by rw [e1]; rfl
          have HQ : Hid (quoB c = [92, 116]) := Lib.hid (by unfold quoB; simp [*])
          clear e0 e1
          obtain ⟨v', w2, hrun, happ⟩ := app_lit wr 52 w.heap.size v cur [92, 116] HO.out hBs (by simp only [List.length_cons, List.length_nil]; omega)
          have HRUN : Hid ((Builtin.append_ #[52, 52] 52 #[v, .slice (some ⟨wr.heap.size, 0, none⟩) 2 2]).run Tryd.prog (wr.alloc (.cells #[.int .u8 92, .int .u8 116] 5)) = .ok v' w2) := Lib.hid hrun
          have HA := Lib.hid happ
          have HE2 : Hid (Ext w w2) := Lib.hid (happ.ext (HE.out.alloc _) (Nat.le_refl _))
          clear hrun happ
          go_wp2_with (at_builtin; refine wpList_append_run rfl _ _ 52 rfl _ _ _ _ rfl rfl HRUN.out ?_)
          go_roundw
          case rel => exact ⟨_, k + 1, _, rfl, hkn, by go_num, HN, Lib.hid (by rw [HQ.out]; exact HA.out.own), HE2⟩
          case measure => simp [intOf]; omega
        · have f1 : ((c.toNat : Int) == 9) = false := by rw [beq_eq_false_iff_ne]; omega
          by_cases e2 : c.toNat = 13
          · have f2 : ((c.toNat : Int) == 13) = true := by rw [e2]; rfl
            have HQ : Hid (quoB c = [92, 114]) := Lib.hid (by unfold quoB; simp [*])
            clear e0 e1 e2
            obtain ⟨v', w2, hrun, happ⟩ := app_lit wr 52 w.heap.size v cur [92, 114] HO.out hBs (by simp only [List.length_cons, List.length_nil]; omega)
            have HRUN : Hid ((Builtin.append_ #[52, 52] 52 #[v, .slice (some ⟨wr.heap.size, 0, none⟩) 2 2]).run Tryd.prog (wr.alloc (.cells #[.int .u8 92, .int .u8 114] 5)) = .ok v' w2) := Lib.hid hrun
            have HA := Lib.hid happ
            have HE2 : Hid (Ext w w2) := Lib.hid (happ.ext (HE.out.alloc _) (Nat.le_refl _))
            clear hrun happ
            go_wp2_with (at_builtin; refine wpList_append_run rfl _ _ 52 rfl _ _ _ _ rfl rfl HRUN.out ?_)
            go_roundw
            case rel => exact ⟨_, k + 1, _, rfl, hkn, by go_num, HN, Lib.hid (by rw [HQ.out]; exact HA.out.own), HE2⟩
            case measure => simp [intOf]; omega
          · have f2 : ((c.toNat : Int) == 13) = false := by rw [beq_eq_false_iff_ne]; omega
            by_cases e3 : c.toNat = 39
            · have f3 : ((c.toNat : Int) == 39) = true := by rw [e3]; rfl
              have HQ : Hid (quoB c = [92, c]) := Lib.hid (by unfold quoB; simp [*])
              clear e0 e1 e2 e3
              obtain ⟨v', w2, hrun, happ⟩ := app_lit wr 52 w.heap.size v cur [92, c] HO.out hBs (by simp only [List.length_cons, List.length_nil]; omega)
              have HRUN : Hid ((Builtin.append_ #[52, 52] 52 #[v, .slice (some ⟨wr.heap.size, 0, none⟩) 2 2]).run Tryd.prog (wr.alloc (.cells #[.int .u8 92, .int .u8 (c.toNat : Int)] 5)) = .ok v' w2) := Lib.hid hrun
              have HA := Lib.hid happ
              have HE2 : Hid (Ext w w2) := Lib.hid (happ.ext (HE.out.alloc _) (Nat.le_refl _))
              clear hrun happ
              go_wp2_with (at_builtin; refine wpList_append_run rfl _ _ 52 rfl _ _ _ _ rfl rfl HRUN.out ?_)
              go_roundw
              case rel => exact ⟨_, k + 1, _, rfl, hkn, by go_num, HN, Lib.hid (by rw [HQ.out]; exact HA.out.own), HE2⟩
              case measure => simp [intOf]; omega
            · have f3 : ((c.toNat : Int) == 39) = false := by rw [beq_eq_false_iff_ne]; omega
              by_cases e4 : c.toNat = 92
              · have f4 : ((c.toNat : Int) == 92) = true := by rw [e4]; rfl
                have HQ : Hid (quoB c = [92, c]) := Lib.hid (by unfold quoB; simp [*])
                clear e0 e1 e2 e3 e4
                obtain ⟨v', w2, hrun, happ⟩ := app_lit wr 52 w.heap.size v cur [92, c] HO.out hBs (by simp only [List.length_cons, List.length_nil]; omega)
                have HRUN : Hid ((Builtin.append_ #[52, 52] 52 #[v, .slice (some ⟨wr.heap.size, 0, none⟩) 2 2]).run Tryd.prog (wr.alloc (.cells #[.int .u8 92, .int .u8 (c.toNat : Int)] 5)) = .ok v' w2) := Lib.hid hrun
                have HA := Lib.hid happ
                have HE2 : Hid (Ext w w2) := Lib.hid (happ.ext (HE.out.alloc _) (Nat.le_refl _))
                clear hrun happ
                go_wp2_with (at_builtin; refine wpList_append_run rfl _ _ 52 rfl _ _ _ _ rfl rfl HRUN.out ?_)
                go_roundw
                case rel => exact ⟨_, k + 1, _, rfl, hkn, by go_num, HN, Lib.hid (by rw [HQ.out]; exact HA.out.own), HE2⟩
                case measure => simp [intOf]; omega
              · have f4 : ((c.toNat : Int) == 92) = false := by rw [beq_eq_false_iff_ne]; omega
                by_cases e5 : c.toNat < 32
                · have f5 : decide ((c.toNat : Int) < 32) = true := decide_eq_true (by omega)
                  have f5n : decide (c.toNat < 32) = true := decide_eq_true e5
                  have HQ : Hid (quoB c = [92, UInt8.ofNat (48 + c.toNat / 100), UInt8.ofNat (48 + c.toNat / 10 % 10), UInt8.ofNat (48 + c.toNat % 10)]) := Lib.hid (by unfold quoB; simp [*])
                  clear e0 e1 e2 e3 e4 e5
                  obtain ⟨v', w2, hrun, happ⟩ := app_lit wr 52 w.heap.size v cur [92, UInt8.ofNat (48 + c.toNat / 100), UInt8.ofNat (48 + c.toNat / 10 % 10), UInt8.ofNat (48 + c.toNat % 10)] HO.out hBs (by simp only [List.length_cons, List.length_nil]; omega)
                  have HRUN : Hid ((Builtin.append_ #[52, 52] 52 #[v, .slice (some ⟨wr.heap.size, 0, none⟩) 4 4]).run Tryd.prog (wr.alloc (.cells #[.int .u8 92, .int .u8 (48 + (c.toNat : Int) / 100), .int .u8 (48 + (c.toNat : Int) / 10 % 10), .int .u8 (48 + (c.toNat : Int) % 10)] 5)) = .ok v' w2) := Lib.hid (by rw [← four_cells c]; exact hrun)
                  have HA := Lib.hid happ
                  have HE2 : Hid (Ext w w2) := Lib.hid (happ.ext (HE.out.alloc _) (Nat.le_refl _))
                  clear hrun happ
                  go_wp2_with (at_builtin; refine wpList_append_run rfl _ _ 52 rfl _ _ _ _ rfl rfl HRUN.out ?_)
                  go_roundw
                  case rel => exact ⟨_, k + 1, _, rfl, hkn, by go_num, HN, Lib.hid (by rw [HQ.out]; exact HA.out.own), HE2⟩
                  case measure => simp [intOf]; omega
                · have f5 : decide ((c.toNat : Int) < 32) = false := decide_eq_false (by omega)
                  have f5n : decide (c.toNat < 32) = false := decide_eq_false e5
                  by_cases e6 : 126 < c.toNat
                  · have f6 : decide ((126 : Int) < (c.toNat : Int)) = true := decide_eq_true (by omega)
                    have f6n : decide (126 < c.toNat) = true := decide_eq_true e6
                    have HQ : Hid (quoB c = [92, UInt8.ofNat (48 + c.toNat / 100), UInt8.ofNat (48 + c.toNat / 10 % 10), UInt8.ofNat (48 + c.toNat % 10)]) := Lib.hid (by unfold quoB; simp [*])
                    clear e0 e1 e2 e3 e4 e5 e6
                    obtain ⟨v', w2, hrun, happ⟩ := app_lit wr 52 w.heap.size v cur [92, UInt8.ofNat (48 + c.toNat / 100), UInt8.ofNat (48 + c.toNat / 10 % 10), UInt8.ofNat (48 + c.toNat % 10)] HO.out hBs (by simp only [List.length_cons, List.length_nil]; omega)
                    have HRUN : Hid ((Builtin.append_ #[52, 52] 52 #[v, .slice (some ⟨wr.heap.size, 0, none⟩) 4 4]).run Tryd.prog (wr.alloc (.cells #[.int .u8 92, .int .u8 (48 + (c.toNat : Int) / 100), .int .u8 (48 + (c.toNat : Int) / 10 % 10), .int .u8 (48 + (c.toNat : Int) % 10)] 5)) = .ok v' w2) := Lib.hid (by rw [← four_cells c]; exact hrun)
                    have HA := Lib.hid happ
                    have HE2 : Hid (Ext w w2) := Lib.hid (happ.ext (HE.out.alloc _) (Nat.le_refl _))
                    clear hrun happ
                    go_wp2_with (at_builtin; refine wpList_append_run rfl _ _ 52 rfl _ _ _ _ rfl rfl HRUN.out ?_)
                    go_roundw
                    case rel => exact ⟨_, k + 1, _, rfl, hkn, by go_num, HN, Lib.hid (by rw [HQ.out]; exact HA.out.own), HE2⟩
                    case measure => simp [intOf]; omega
                  · have f6 : decide ((126 : Int) < (c.toNat : Int)) = false := decide_eq_false (by omega)
                    have f6n : decide (126 < c.toNat) = false := decide_eq_false e6
                    have HQ : Hid (quoB c = [c]) := Lib.hid (by unfold quoB; simp [*])
                    clear e0 e1 e2 e3 e4 e5 e6
                    obtain ⟨v', w2, hrun, happ⟩ := app_lit wr 52 w.heap.size v cur [c] HO.out hBs (by simp only [List.length_cons, List.length_nil]; omega)
                    have HRUN : Hid ((Builtin.append_ #[52, 52] 52 #[v, .slice (some ⟨wr.heap.size, 0, none⟩) 1 1]).run Tryd.prog (wr.alloc (.cells #[.int .u8 (c.toNat : Int)] 5)) = .ok v' w2) := Lib.hid hrun
                    have HA := Lib.hid happ
                    have HE2 : Hid (Ext w w2) := Lib.hid (happ.ext (HE.out.alloc _) (Nat.le_refl _))
                    clear hrun happ
                    go_wp2_with (at_builtin; refine wpList_append_run rfl _ _ 52 rfl _ _ _ _ rfl rfl HRUN.out ?_)
                    go_roundw
                    case rel => exact ⟨_, k + 1, _, rfl, hkn, by go_num, HN, Lib.hid (by rw [HQ.out]; exact HA.out.own), HE2⟩
                    case measure => simp [intOf]; omega
    · obtain rfl : k = n := by omega
      have d1 : decide ((k : Int) < (k : Int)) = false := decide_eq_false (by omega)
      have HQ : Hid (quoteP l = cur ++ [39]) := Lib.hid (by rw [← HC.out, List.take_of_length_le (by rw [HLL.out]; exact Nat.le_refl _)]; simp [quoteP])
      obtain ⟨v', w2, hrun, happ⟩ := app_lit wr 52 w.heap.size v cur [39] HO.out hBs (by simp only [List.length_cons, List.length_nil]; omega)
      have HRUN : Hid ((Builtin.append_ #[52, 52] 52 #[v, .slice (some ⟨wr.heap.size, 0, none⟩) 1 1]).run Tryd.prog (wr.alloc (.cells #[.int .u8 39] 5)) = .ok v' w2) := Lib.hid hrun
      have HE2 : Hid (Ext w w2) := Lib.hid (happ.ext (HE.out.alloc _) (Nat.le_refl _))
      have hcv := happ.own.conv
      clear hrun happ
      go_wp2_with (at_builtin; refine wpList_append_run rfl _ _ 52 rfl _ _ _ _ rfl rfl HRUN.out ?_)
      go_ret
      rw [HQ.out]
      exact ⟨rfl, HE2.out⟩
end Go.Proofs.YthknpnhiijbgfaaDoor
