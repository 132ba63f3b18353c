/- Words: a text as a word, in the program. -/
import Derived.Test.YthknpnhiijbgfaaDoorQuB
import Derived.Test.YthknpnhiijbgfaaDoorPow
import Derived.Test.YthknpnhiijbgfaaDoorWdQ
import Derived.Test.YthknpnhiijbgfaaDoorWdM
namespace Go.Proofs.YthknpnhiijbgfaaDoor
open Go.RowKit
set_option linter.unusedVariables false
set_option linter.unusedSimpArgs false

theorem flat_len (l : List UInt8) : (l.flatMap quoB).length ≤ 4 * l.length := by
  have := quote_len l
  simp only [quoteP, List.length_cons, List.length_append, List.length_nil] at this
  omega
theorem flat_snoc {l : List UInt8} {k : Nat} (h : k < l.length) : (l.take (k + 1)).flatMap quoB = (l.take k).flatMap quoB ++ quoB l[k] := by
  rw [List.take_succ_eq_append_getElem h, List.flatMap_append]
  simp
theorem itoa_three : ∀ n : Fin 256, Lib.itoa (1000 + (n.val : Int)) = [49, UInt8.ofNat (48 + n.val / 100), UInt8.ofNat (48 + n.val / 10 % 10), UInt8.ofNat (48 + n.val % 10)] := by decide +kernel
theorem its_three (c : UInt8) : itS (1000 + (c.toNat : Int)) = ⟨#[49, UInt8.ofNat (48 + c.toNat / 100), UInt8.ofNat (48 + c.toNat / 10 % 10), UInt8.ofNat (48 + c.toNat % 10)]⟩ := by
  have := itoa_three ⟨c.toNat, c.toNat_lt⟩
  unfold itS
  rw [this]
theorem ext_below {w a b : World} {B : Nat} (hB : w.heap.size = B) (h : Ext w a) (k : Below B a b) : Ext w b := by
  subst hB
  exact Below.trans h k
theorem BldIs.ext {B b : Nat} {l : List UInt8} {w w' : World} (h : BldIs B b l w) (he : Ext w w') : BldIs B b l w' := by
  obtain ⟨p, hp, hB, v, hbk, hown, hne⟩ := h
  refine ⟨p, hp, hB, v, ?_, own_ext hown he, hne⟩
  have hlt : b < w.heap.size := by
    rcases Nat.lt_or_ge b w.heap.size with h' | h'
    · exact h'
    · simp [Array.getElem?_eq_none h'] at hbk
  rw [he.block b hlt]
  exact hbk
theorem bbyte_at (B b : Nat) (l : List UInt8) (c : UInt8) (x : Value) (hx : x = .int .u8 c.toNat) (w : World) (h : BldIs B b l w) (hlen : l.length + 1 ≤ 140737488355328) (hBw : B ≤ w.heap.size) :
    Calls Tryd.prog 32 #[.pointer (some ⟨b, 0, none⟩), x] w fun e w' => e = .returned .nilIface ∧ (BldIs B b (l ++ [c]) w' ∧ Below B w w') := by
  subst hx
  exact bbyte_any B b l c w h hlen hBw
set_option maxRecDepth 100000 in
set_option maxHeartbeats 4000000 in
theorem quote_any (w : World) (s : ByteArray) (hs : s.size ≤ 1048576) (hP : Pow w) : Calls Tryd.prog 17 #[.string s] w fun e w' => e = .returned (.string ⟨(quoteP s.data.toList).toArray⟩) ∧ Ext w w' := by
  obtain ⟨n, hn⟩ : ∃ n, s.size = n := ⟨_, rfl⟩
  have hl : s.data.toList.length = n := hn
  obtain ⟨l, hL⟩ : ∃ l, s.data.toList = l := ⟨_, rfl⟩
  obtain ⟨B, hB⟩ : ∃ B, w.heap.size = B := ⟨_, rfl⟩
  rw [hL] at hl ⊢
  rw [hn] at hs
  have HL := Lib.hid hL
  have HLL := Lib.hid hl
  have HP := Lib.hid hP
  have H0 : Hid (BldIs w.heap.size w.heap.size [] (w.alloc (.cells #[.pointer none, .slice none 0 0] 55))) := Lib.hid (bld_new w)
  rw [hB] at H0
  have HBB := Lib.hid hB
  clear hL hl hP
  go_enter Tryd.func17, Tryd.ntmps17
  go_wp2_with fail
  refine (bbyte_at _ _ _ 39 _ rfl _ H0.out (by decide) (by rw [size_alloc]; omega)).mono ?_
  rintro e w1 ⟨rfl, hb1, he1⟩
  have HB1 := Lib.hid hb1
  have HE1 : Hid (Ext w w1) := Lib.hid (ext_below HBB.out ((Ext.refl w).alloc _) he1)
  clear hb1 he1
  go_wp2_with fail
  go_loopw [10] (fun i wr => ∃ (k : Nat) (cur : List UInt8), k ≤ n ∧ i = .int .i64 k ∧ Hid (39 :: (l.take k).flatMap quoB = cur) ∧ Hid (BldIs B B cur wr) ∧ Hid (Ext w wr)) (fun i _ => n - (intOf i).toNat)
  case atStart => exact ⟨0, [39], Nat.zero_le _, rfl, Lib.hid (by simp), HB1, HE1⟩
  case round =>
    obtain ⟨k, cur, hk, rfl, HC, HB, HE⟩ := hrel
    have hBs : B ≤ wr.heap.size := by have := HE.out.le; rw [← HBB.out]; exact this
    have hcl : cur.length ≤ 4 * k + 1 := by
      rw [← HC.out, List.length_cons]
      have h1 := flat_len (l.take k)
      have h2 : (l.take k).length ≤ k := by rw [List.length_take]; omega
      omega
    by_cases hkn : k < n
    · have d1 : decide ((k : Int) < (n : Int)) = true := decide_eq_true (by omega)
      have d1n : decide (k < n) = true := decide_eq_true hkn
      have hks : k < s.size := by omega
      have hkl : k < l.length := by rw [HLL.out]; exact hkn
      obtain ⟨c, hc⟩ : ∃ c, s[k]'hks = c := ⟨_, rfl⟩
      have hlk : l[k] = c := by rw [← hc, ← str_get]; exact get_of HL.out.symm _
      have HN : Hid (39 :: (l.take (k + 1)).flatMap quoB = cur ++ quoB c) := Lib.hid (by rw [flat_snoc hkl, hlk, ← HC.out]; rfl)
      have hcn := c.toNat_lt
      clear hlk hkl HC
      by_cases e0 : c.toNat = 10
      · have f0 : ((c.toNat : Int) == 10) = true := by rw [e0]; rfl
        have HQ : Hid (quoB c = [92, 110]) := Lib.hid (by unfold quoB; simp [*])
        clear e0
        go_wp2_with fail
        refine (bstr_any _ _ _ [92, 110] _ HB.out (by simp only [List.length_cons, List.length_nil]; omega) hBs).mono ?_
        rintro e w1 ⟨⟨z, he⟩, hb1, he1⟩
        subst he
        have HB1 := Lib.hid hb1
        have HE1 : Hid (Ext w w1) := Lib.hid (ext_below HBB.out HE.out he1)
        clear hb1 he1
        go_wp2_with fail
        go_roundw
        case rel => exact ⟨k + 1, _, hkn, by go_num, HN, Lib.hid (by rw [HQ.out]; exact HB1.out), HE1⟩
        case measure => simp [intOf]; omega
      · have f0 : ((c.toNat : Int) == 10) = false := by rw [beq_eq_false_iff_ne]; omega
        by_cases e1 : c.toNat = 9
        · have f1 : ((c.toNat : Int) == 9) = true := by rw [e1]; rfl
          have HQ : Hid (quoB c = [92, 116]) := Lib.hid (by unfold quoB; simp [*])
          clear e0 e1
          go_wp2_with fail
          refine (bstr_any _ _ _ [92, 116] _ HB.out (by simp only [List.length_cons, List.length_nil]; omega) hBs).mono ?_
          rintro e w1 ⟨⟨z, he⟩, hb1, he1⟩
          subst he
          have HB1 := Lib.hid hb1
          have HE1 : Hid (Ext w w1) := Lib.hid (ext_below HBB.out HE.out he1)
          clear hb1 he1
          go_wp2_with fail
          go_roundw
          case rel => exact ⟨k + 1, _, hkn, by go_num, HN, Lib.hid (by rw [HQ.out]; exact HB1.out), HE1⟩
          case measure => simp [intOf]; omega
        · have f1 : ((c.toNat : Int) == 9) = false := by rw [beq_eq_false_iff_ne]; omega
          by_cases e2 : c.toNat = 13
          · have f2 : ((c.toNat : Int) == 13) = true := by rw [e2]; rfl
            have HQ : Hid (quoB c = [92, 114]) := Lib.hid (by unfold quoB; simp [*])
            clear e0 e1 e2
            go_wp2_with fail
            refine (bstr_any _ _ _ [92, 114] _ HB.out (by simp only [List.length_cons, List.length_nil]; omega) hBs).mono ?_
            rintro e w1 ⟨⟨z, he⟩, hb1, he1⟩
            subst he
            have HB1 := Lib.hid hb1
            have HE1 : Hid (Ext w w1) := Lib.hid (ext_below HBB.out HE.out he1)
            clear hb1 he1
            go_wp2_with fail
            go_roundw
            case rel => exact ⟨k + 1, _, hkn, by go_num, HN, Lib.hid (by rw [HQ.out]; exact HB1.out), HE1⟩
            case measure => simp [intOf]; omega
          · have f2 : ((c.toNat : Int) == 13) = false := by rw [beq_eq_false_iff_ne]; omega
            by_cases e3 : c.toNat = 39
            · have f3 : ((c.toNat : Int) == 39) = true := by rw [e3]; rfl
              have HQ : Hid (quoB c = [92, c]) := Lib.hid (by unfold quoB; simp [*])
              clear e0 e1 e2 e3
              have hcl2 : (cur ++ [92]).length ≤ 4 * k + 2 := by simp; omega
              go_wp2_with fail
              refine (bbyte_at _ _ _ 92 _ rfl _ HB.out (by omega) hBs).mono ?_
              rintro e w1 ⟨rfl, hb1, he1⟩
              have HB1 := Lib.hid hb1
              have HE1 : Hid (Ext w w1) := Lib.hid (ext_below HBB.out HE.out he1)
              have hBs1 : B ≤ w1.heap.size := by have := HE1.out.le; rw [← HBB.out]; exact this
              clear hb1 he1
              go_wp2_with fail
              refine (bbyte_at _ _ _ c _ rfl _ HB1.out (by omega) hBs1).mono ?_
              rintro e w2 ⟨rfl, hb2, he2⟩
              have HB2 := Lib.hid hb2
              have HE2 : Hid (Ext w w2) := Lib.hid (ext_below HBB.out HE1.out he2)
              clear hb2 he2
              go_wp2_with fail
              go_roundw
              case rel => exact ⟨k + 1, _, hkn, by go_num, HN, Lib.hid (by rw [HQ.out]; have h := HB2.out; rw [List.append_assoc] at h; exact h), HE2⟩
              case measure => simp [intOf]; omega
            · have f3 : ((c.toNat : Int) == 39) = false := by rw [beq_eq_false_iff_ne]; omega
              by_cases e4 : c.toNat = 92
              · have f4 : ((c.toNat : Int) == 92) = true := by rw [e4]; rfl
                have HQ : Hid (quoB c = [92, c]) := Lib.hid (by unfold quoB; simp [*])
                clear e0 e1 e2 e3 e4
                have hcl2 : (cur ++ [92]).length ≤ 4 * k + 2 := by simp; omega
                go_wp2_with fail
                refine (bbyte_at _ _ _ 92 _ rfl _ HB.out (by omega) hBs).mono ?_
                rintro e w1 ⟨rfl, hb1, he1⟩
                have HB1 := Lib.hid hb1
                have HE1 : Hid (Ext w w1) := Lib.hid (ext_below HBB.out HE.out he1)
                have hBs1 : B ≤ w1.heap.size := by have := HE1.out.le; rw [← HBB.out]; exact this
                clear hb1 he1
                go_wp2_with fail
                refine (bbyte_at _ _ _ c _ rfl _ HB1.out (by omega) hBs1).mono ?_
                rintro e w2 ⟨rfl, hb2, he2⟩
                have HB2 := Lib.hid hb2
                have HE2 : Hid (Ext w w2) := Lib.hid (ext_below HBB.out HE1.out he2)
                clear hb2 he2
                go_wp2_with fail
                go_roundw
                case rel => exact ⟨k + 1, _, hkn, by go_num, HN, Lib.hid (by rw [HQ.out]; have h := HB2.out; rw [List.append_assoc] at h; exact h), HE2⟩
                case measure => simp [intOf]; omega
              · have f4 : ((c.toNat : Int) == 92) = false := by rw [beq_eq_false_iff_ne]; omega
                by_cases e5 : c.toNat < 32
                · have f5 : decide ((c.toNat : Int) < 32) = true := decide_eq_true (by omega)
                  have f5n : decide (c.toNat < 32) = true := decide_eq_true e5
                  have HQ : Hid (quoB c = 92 :: [UInt8.ofNat (48 + c.toNat / 100), UInt8.ofNat (48 + c.toNat / 10 % 10), UInt8.ofNat (48 + c.toNat % 10)]) := Lib.hid (by unfold quoB; simp [*])
                  clear e0 e1 e2 e3 e4 e5
                  have hcl2 : (cur ++ [92]).length ≤ 4 * k + 2 := by simp; omega
                  obtain ⟨S4, hS4⟩ : ∃ S4, itS (1000 + (c.toNat : Int)) = S4 := ⟨_, rfl⟩
                  have z4 : S4.size = 4 := by rw [← hS4, its_three]; rfl
                  have HX : Hid (S4.extract 1 4 = ⟨([UInt8.ofNat (48 + c.toNat / 100), UInt8.ofNat (48 + c.toNat / 10 % 10), UInt8.ofNat (48 + c.toNat % 10)] : List UInt8).toArray⟩) := Lib.hid (by rw [← hS4, its_three]; rfl)
                  have HS4 := Lib.hid hS4
                  clear hS4
                  go_wp2_with fail
                  refine (bbyte_at _ _ _ 92 _ rfl _ HB.out (by omega) hBs).mono ?_
                  rintro e w1 ⟨rfl, hb1, he1⟩
                  have HB1 := Lib.hid hb1
                  have HE1 : Hid (Ext w w1) := Lib.hid (ext_below HBB.out HE.out he1)
                  have hBs1 : B ≤ w1.heap.size := by have := HE1.out.le; rw [← HBB.out]; exact this
                  clear hb1 he1
                  go_wp2_with fail
                  refine (itoa_any (1000 + (c.toNat : Int)) _ (HP.out.ext HE1.out) (by omega) (by omega)).mono ?_
                  rintro e w2 ⟨rfl, he2⟩
                  have HB2 : Hid (BldIs B B (cur ++ [92]) w2) := Lib.hid (HB1.out.ext he2)
                  have HE2 := Lib.hid (HE1.out.trans he2)
                  have hBs2 : B ≤ w2.heap.size := by have := HE2.out.le; rw [← HBB.out]; exact this
                  clear he2
                  rw [HS4.out]
                  go_wp2_with fail
                  rw [HX.out]
                  refine (bstr_any _ _ _ [UInt8.ofNat (48 + c.toNat / 100), UInt8.ofNat (48 + c.toNat / 10 % 10), UInt8.ofNat (48 + c.toNat % 10)] _ HB2.out (by simp only [List.length_cons, List.length_nil]; omega) hBs2).mono ?_
                  rintro e w3 ⟨⟨z, he⟩, hb3, he3⟩
                  subst he
                  have HB3 := Lib.hid hb3
                  have HE3 : Hid (Ext w w3) := Lib.hid (ext_below HBB.out HE2.out he3)
                  clear hb3 he3
                  go_wp2_with fail
                  go_roundw
                  case rel => exact ⟨k + 1, _, hkn, by go_num, HN, Lib.hid (by rw [HQ.out]; have h := HB3.out; rw [List.append_assoc] at h; exact h), HE3⟩
                  case measure => simp [intOf]; omega
                · have f5 : decide ((c.toNat : Int) < 32) = false := decide_eq_false (by omega)
                  have f5n : decide (c.toNat < 32) = false := decide_eq_false e5
                  by_cases e6 : 126 < c.toNat
                  · have f6 : decide ((126 : Int) < (c.toNat : Int)) = true := decide_eq_true (by omega)
                    have f6n : decide (126 < c.toNat) = true := decide_eq_true e6
                    have HQ : Hid (quoB c = 92 :: [UInt8.ofNat (48 + c.toNat / 100), UInt8.ofNat (48 + c.toNat / 10 % 10), UInt8.ofNat (48 + c.toNat % 10)]) := Lib.hid (by unfold quoB; simp [*])
                    clear e0 e1 e2 e3 e4 e5 e6
                    have hcl2 : (cur ++ [92]).length ≤ 4 * k + 2 := by simp; omega
                    obtain ⟨S4, hS4⟩ : ∃ S4, itS (1000 + (c.toNat : Int)) = S4 := ⟨_, rfl⟩
                    have z4 : S4.size = 4 := by rw [← hS4, its_three]; rfl
                    have HX : Hid (S4.extract 1 4 = ⟨([UInt8.ofNat (48 + c.toNat / 100), UInt8.ofNat (48 + c.toNat / 10 % 10), UInt8.ofNat (48 + c.toNat % 10)] : List UInt8).toArray⟩) := Lib.hid (by rw [← hS4, its_three]; rfl)
                    have HS4 := Lib.hid hS4
                    clear hS4
                    go_wp2_with fail
                    refine (bbyte_at _ _ _ 92 _ rfl _ HB.out (by omega) hBs).mono ?_
                    rintro e w1 ⟨rfl, hb1, he1⟩
                    have HB1 := Lib.hid hb1
                    have HE1 : Hid (Ext w w1) := Lib.hid (ext_below HBB.out HE.out he1)
                    have hBs1 : B ≤ w1.heap.size := by have := HE1.out.le; rw [← HBB.out]; exact this
                    clear hb1 he1
                    go_wp2_with fail
                    refine (itoa_any (1000 + (c.toNat : Int)) _ (HP.out.ext HE1.out) (by omega) (by omega)).mono ?_
                    rintro e w2 ⟨rfl, he2⟩
                    have HB2 : Hid (BldIs B B (cur ++ [92]) w2) := Lib.hid (HB1.out.ext he2)
                    have HE2 := Lib.hid (HE1.out.trans he2)
                    have hBs2 : B ≤ w2.heap.size := by have := HE2.out.le; rw [← HBB.out]; exact this
                    clear he2
                    rw [HS4.out]
                    go_wp2_with fail
                    rw [HX.out]
                    refine (bstr_any _ _ _ [UInt8.ofNat (48 + c.toNat / 100), UInt8.ofNat (48 + c.toNat / 10 % 10), UInt8.ofNat (48 + c.toNat % 10)] _ HB2.out (by simp only [List.length_cons, List.length_nil]; omega) hBs2).mono ?_
                    rintro e w3 ⟨⟨z, he⟩, hb3, he3⟩
                    subst he
                    have HB3 := Lib.hid hb3
                    have HE3 : Hid (Ext w w3) := Lib.hid (ext_below HBB.out HE2.out he3)
                    clear hb3 he3
                    go_wp2_with fail
                    go_roundw
                    case rel => exact ⟨k + 1, _, hkn, by go_num, HN, Lib.hid (by rw [HQ.out]; have h := HB3.out; rw [List.append_assoc] at h; exact h), HE3⟩
                    case measure => simp [intOf]; omega
                  · have f6 : decide ((126 : Int) < (c.toNat : Int)) = false := decide_eq_false (by omega)
                    have f6n : decide (126 < c.toNat) = false := decide_eq_false e6
                    have HQ : Hid (quoB c = [c]) := Lib.hid (by unfold quoB; simp [*])
                    clear e0 e1 e2 e3 e4 e5 e6
                    go_wp2_with fail
                    refine (bbyte_at _ _ _ c _ rfl _ HB.out (by omega) hBs).mono ?_
                    rintro e w1 ⟨rfl, hb1, he1⟩
                    have HB1 := Lib.hid hb1
                    have HE1 : Hid (Ext w w1) := Lib.hid (ext_below HBB.out HE.out he1)
                    clear hb1 he1
                    go_wp2_with fail
                    go_roundw
                    case rel => exact ⟨k + 1, _, hkn, by go_num, HN, Lib.hid (by rw [HQ.out]; exact HB1.out), HE1⟩
                    case measure => simp [intOf]; omega
    · obtain rfl : k = n := by omega
      have d1 : decide ((k : Int) < (k : Int)) = false := decide_eq_false (by omega)
      have HQ : Hid (quoteP l = cur ++ [39]) := Lib.hid (by rw [← HC.out, List.take_of_length_le (by rw [HLL.out]; exact Nat.le_refl _)]; simp [quoteP])
      go_wp2_with fail
      refine (bbyte_at _ _ _ 39 _ rfl _ HB.out (by omega) hBs).mono ?_
      rintro e w1 ⟨rfl, hb1, he1⟩
      have HB1 := Lib.hid hb1
      have HE1 : Hid (Ext w w1) := Lib.hid (ext_below HBB.out HE.out he1)
      clear hb1 he1
      go_wp2_with fail
      refine (bstring_any _ _ _ _ HB1.out (by simp)).mono ?_
      rintro e w2 ⟨rfl, he2⟩
      have HE2 : Hid (Ext w w2) := Lib.hid (ext_below HBB.out HE1.out he2)
      clear he2
      go_wp2_with fail
      go_ret
      rw [HQ.out]
      exact ⟨rfl, HE2.out⟩
end Go.Proofs.YthknpnhiijbgfaaDoor
