/- Words: which words may be printed, in the program. -/
import Derived.Test.YthknpnhiijbgfaaDoorWdQ
import Derived.Test.YthknpnhiijbgfaaDoorWdK
import Derived.Test.YthknpnhiijbgfaaDoorWdM
namespace Go.Proofs.YthknpnhiijbgfaaDoor
open Go.RowKit
set_option linter.unusedVariables false
set_option linter.unusedSimpArgs false

theorem signs_has (t : List UInt8) : Lib.containsS (signW.take 24) ⟨t.toArray⟩ = signB t := by
  rw [Bool.eq_iff_iff, Lib.containsS_iff]
  show (⟨t.toArray⟩ : ByteArray) ∈ signW.take 24 ↔ _
  rw [List.take_of_length_le (by decide)]
  unfold signB signW
  rw [List.any_eq_true]
  constructor
  · intro h
    obtain ⟨x, hx, he⟩ := List.mem_map.1 h
    refine ⟨x, hx, ?_⟩
    injection he with he
    have := congrArg Array.toList he
    simpa using this
  · rintro ⟨x, hx, he⟩
    rw [beq_iff_eq] at he
    exact List.mem_map.2 ⟨x, hx, by rw [he]⟩
theorem sign_cell {w : World} {g : Nat} {ty : TypeId} (h : Blk w g ty signV) : ∀ j, j < signW.length → w.cell? ⟨g, 0 + j, none⟩ = some (.string (signW.getD j ByteArray.empty)) := by
  intro j hj
  rw [Nat.zero_add, h.cell]
  unfold signV
  rw [List.getElem?_toArray, List.getElem?_map, List.getElem?_eq_getElem hj, List.getD_eq_getElem?_getD, List.getElem?_eq_getElem hj]
  rfl
theorem size_drew_alloc (w : World) (o : Obj) : (w.alloc o).drew.heap.size = w.heap.size + 1 := size_alloc w o
theorem may_not {x : Wd} (h : x.n ≠ 0) (hk : x.k ≠ 2) : mayP x = false := by
  unfold mayP
  rw [if_neg hk]
  simp [h]
theorem may_other {x : Wd} (h0 : x.k ≠ 0) (h1 : x.k ≠ 1) (h2 : x.k ≠ 2) (h3 : x.k ≠ 3) (h4 : x.k ≠ 4) : mayP x = false := by
  unfold mayP
  rw [if_neg h0, if_neg h1, if_neg h2, if_neg h3, if_neg h4]
set_option maxRecDepth 100000 in
set_option maxHeartbeats 2000000 in
theorem may_any (w : World) (x : Wd) (hL : Laid w) : Calls Tryd.prog 38 #[.agg #[.int .i64 x.k, .string ⟨x.t.toArray⟩, .int .i64 x.n, .int .i64 x.a]] w fun e w' => e = .returned (.bool (mayP x)) ∧ Ext w w' := by
  obtain ⟨k, t, n, a⟩ := x
  have HL := Lib.hid hL
  clear hL
  obtain ⟨r, hr⟩ : ∃ r, mayP ⟨k, t, n, a⟩ = r := ⟨_, rfl⟩
  obtain ⟨T, hT⟩ : ∃ T : ByteArray, ⟨t.toArray⟩ = T := ⟨_, rfl⟩
  have hTt : T.data.toList = t := by rw [← hT]
  rw [hr]
  dsimp only
  rw [hT]
  have HR := Lib.hid hr
  have HT := Lib.hid hT
  have HTT := Lib.hid hTt
  clear hr hT hTt
  have HE0 : Hid (∀ o, Ext w (w.alloc o)) := Lib.hid fun o => (Ext.refl w).alloc o
  by_cases h2 : k = 2
  · subst h2
    by_cases ht : T.size = 0
    · have e0 : T.toList.isEmpty = true := by rw [str_empty, ht]; rfl
      have ht0 : t = [] := by rw [← HTT.out]; exact List.eq_nil_of_length_eq_zero ht
      have HB : Hid (r = decide (0 ≤ n)) := Lib.hid (by rw [← HR.out]; simp [mayP, ht0])
      clear ht0
      go_enter Tryd.func38, Tryd.ntmps38
      go_wp2_with fail
      go_ret
      exact ⟨ret_of (bool_eq (by first | exact HB.out.symm | (rw [HB.out]))), HE0.out _⟩
    · have e0 : T.toList.isEmpty = false := by rw [str_empty]; exact decide_eq_false ht
      have HB : Hid (r = false) := Lib.hid (by
        rw [← HR.out]
        have : t.isEmpty = false := by
          cases t with
          | nil => exact absurd (by have := congrArg List.length HTT.out; exact this) ht
          | cons c t => rfl
        simp [mayP, this])
      clear ht
      go_enter Tryd.func38, Tryd.ntmps38
      go_wp2_with fail
      go_ret
      exact ⟨ret_of (bool_eq (by first | exact HB.out.symm | (rw [HB.out]))), HE0.out _⟩
  · have g2 : (k == 2) = false := by rw [beq_eq_false_iff_ne]; exact h2
    have g2n : (k != 2) = true := by simp [bne, g2]
    by_cases hn : n = 0
    · subst hn
      have hc : k = 0 ∨ k = 1 ∨ k = 3 ∨ k = 4 ∨ (k ≠ 0 ∧ k ≠ 1 ∧ k ≠ 3 ∧ k ≠ 4) := by omega
      rcases hc with rfl | rfl | rfl | rfl | ⟨h0, h1, h3, h4⟩
      · have HB : Hid (r = nameP t) := Lib.hid (by rw [← HR.out]; simp [mayP])
        clear h2 g2 g2n
        go_enter Tryd.func38, Tryd.ntmps38
        go_wp2_with fail
        refine (name_any _ T (HL.out.asc.ext (HE0.out _))).mono ?_
        rintro e w1 ⟨rfl, he⟩
        rw [HTT.out]
        have HE := Lib.hid he
        clear he
        go_wp2_with fail
        go_ret
        exact ⟨ret_of (bool_eq HB.out.symm), (HE0.out _).trans HE.out⟩
      · have HB : Hid (r = keyB t) := Lib.hid (by rw [← HR.out]; simp [mayP])
        clear h2 g2 g2n
        obtain ⟨b, hb⟩ : ∃ b, keyB t = b := ⟨_, rfl⟩
        have hk := any_keyW T
        rw [HTT.out, hb] at hk
        have HK := Lib.hid hb
        clear hb
        cases b
        · have HKK := Lib.hid hk
          clear hk
          go_enter Tryd.func38, Tryd.ntmps38
          go_wp2_with fail
          go_region_with (go_at_call 25; refine (language_any _ (by first | exact HL.out.asc.ext (HE0.out _).drew | exact HL.out.asc.ext (HE0.out _))).mono ?_; rintro e w1 ⟨rfl, he, hm⟩; (first | rw [size_drew_alloc] at hm | rw [size_alloc] at hm); have c6 := cell_of_ext (b := w.heap.size) (o := 1) (v := .string T) (by go_simp) he; have lk := run_lookup_none Tryd.underlying47 Tryd.underlying9 rfl _ 19 _ (.string T) (.int .i64 0) (zero_int w1) hm (ones_no T keyW HKK.out) false; simp only [Bool.false_eq_true, if_false] at lk; have HE := Lib.hid he; clear he hm)
          all_goals
            go_wp2_with fail
            go_ret
            exact ⟨ret_of (bool_eq (by rw [HB.out, HK.out])), by first | exact (HE0.out _).drew.trans HE.out | exact ((HE0.out _).drew.trans HE.out).drew⟩
        · have HKK := Lib.hid hk
          clear hk
          go_enter Tryd.func38, Tryd.ntmps38
          go_wp2_with fail
          go_region_with (go_at_call 25; refine (language_any _ (by first | exact HL.out.asc.ext (HE0.out _).drew | exact HL.out.asc.ext (HE0.out _))).mono ?_; rintro e w1 ⟨rfl, he, hm⟩; (first | rw [size_drew_alloc] at hm | rw [size_alloc] at hm); have c6 := cell_of_ext (b := w.heap.size) (o := 1) (v := .string T) (by go_simp) he; have lk := run_lookup_lit Tryd.underlying47 Tryd.underlying9 rfl _ 19 _ (.string T) (.int .i64 1) hm (ones_yes T keyW HKK.out) false; simp only [Bool.false_eq_true, if_false] at lk; have HE := Lib.hid he; clear he hm)
          all_goals
            go_wp2_with fail
            go_ret
            exact ⟨ret_of (bool_eq (by rw [HB.out, HK.out])), by first | exact (HE0.out _).drew.trans HE.out | exact ((HE0.out _).drew.trans HE.out).drew⟩
      · have HB : Hid (r = true) := Lib.hid (by rw [← HR.out]; simp [mayP])
        clear h2 g2 g2n
        go_enter Tryd.func38, Tryd.ntmps38
        go_wp2_with fail
        go_ret
        exact ⟨ret_of (bool_eq HB.out.symm), HE0.out _⟩
      · have HB : Hid (r = Lib.containsS (signW.take 24) T) := Lib.hid (by rw [← HR.out, ← HT.out, signs_has]; simp [mayP])
        clear h2 g2 g2n
        obtain ⟨hz, hs⟩ := zero_of_info zeroS
        have HS := Lib.hid hs
        clear hs
        go_enter Tryd.func38, Tryd.ntmps38
        go_wp2_with fail
        refine (signs_any _).mono ?_
        rintro e w1 ⟨rfl, he⟩
        have c1 := cell_of_ext (b := w.heap.size) (o := 1) (v := .string T) (by go_simp) he
        have HC1 := Lib.hid c1
        have HE := Lib.hid he
        have hlt : w.heap.size < w1.heap.size := by have := he.le; rw [size_alloc] at this; omega
        clear he c1
        go_wp2_with (first
          | (refine wpList_store_row rfl 80 _ _ rfl w1.heap.size rfl signV signZ rfl _ (new_at rfl _) (HS.out.trans (by rw [signV_size])) (by kernel_rfl) (by kernel_rfl) ?_))
        obtain ⟨w2, hw2⟩ : ∃ w2, ((w1.alloc (.cells signZ 80)).setRow w1.heap.size signV) = w2 := ⟨_, rfl⟩
        have B2 : Blk w2 w1.heap.size 80 signV := by rw [← hw2]; exact Blk.setRow (cs := signZ) (new_at rfl _) _
        have HE2 : Hid (Ext w1 w2) := Lib.hid (by rw [← hw2]; exact ((Ext.refl w1).alloc _).setRow (Nat.le_refl _) _)
        have c2 := cell_of_ext HC1.out HE2.out
        have hc := sign_cell B2
        have con := fun W (hE : Ext w2 W) => Tryd.slices_Contains_string w1.heap.size 0 24 24 signW T W (by decide) (by decide) (fun j hj => cell_of_ext (hc j hj) hE)
        have CON := Lib.hid con
        rw [hw2]
        clear hw2 con hc
        go_wp2_with fail
        go_quiet (first | (go_at_call 54; refine Calls.quiet_of_same (CON.out _ ((Ext.refl _).drewN _))))
        go_wp2_with fail
        go_ret
        exact ⟨ret_of (bool_eq HB.out.symm), ((HE0.out _).trans (HE.out.trans HE2.out)).drewN _⟩
      · have HB : Hid (r = false) := Lib.hid (by rw [← HR.out]; exact may_other h0 h1 h2 h3 h4)
        have g0 : (k == 0) = false := by rw [beq_eq_false_iff_ne]; exact h0
        have g1 : (k == 1) = false := by rw [beq_eq_false_iff_ne]; exact h1
        have g3 : (k == 3) = false := by rw [beq_eq_false_iff_ne]; exact h3
        have g4 : (k == 4) = false := by rw [beq_eq_false_iff_ne]; exact h4
        clear h0 h1 h2 h3 h4
        go_enter Tryd.func38, Tryd.ntmps38
        go_wp2_with fail
        go_ret
        exact ⟨ret_of (bool_eq HB.out.symm), HE0.out _⟩
    · have gn : (n == 0) = false := by rw [beq_eq_false_iff_ne]; exact hn
      have gnn : (n != 0) = true := by simp [bne, gn]
      have HB : Hid (r = false) := Lib.hid (by rw [← HR.out]; exact may_not hn h2)
      clear h2 hn
      go_enter Tryd.func38, Tryd.ntmps38
      go_wp2_with fail
      go_ret
      exact ⟨ret_of (bool_eq HB.out.symm), HE0.out _⟩
end Go.Proofs.YthknpnhiijbgfaaDoor
