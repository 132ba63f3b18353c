/- The document's reply: nothing, a text. -/
import Derived.Test.YtopdgmchkoaeeaaDoorReG
import Derived.Test.YtopdgmchkoaeeaaDoorRsL
namespace Go.Proofs.YtopdgmchkoaeeaaDoor
open Go.RowKit
set_option linter.unusedVariables false
set_option linter.unusedSimpArgs false

theorem must_skip (l : List UInt8) (c : UInt8) : ∀ (s : List UInt8) (p : Nat), mustS l c (skipS l s p) = skipS l (s ++ [c]) p
  | [], p => rfl
  | a :: s, p => by
    simp only [skipS, List.cons_append]
    by_cases hp : p < l.length
    · simp only [dif_pos hp]
      by_cases hc : l[p] = a
      · simp only [if_pos hc]; exact must_skip l c s (p + 1)
      · simp only [if_neg hc, mustS]
    · simp only [dif_neg hp, mustS]
set_option maxRecDepth 100000 in
set_option maxHeartbeats 4000000 in
theorem rreply_none (deep : Int) (w : World) (g : Nat) (s : ByteArray) (p P t i : Nat) (D : Nat) (h : RBlk w g s p 0 t i) (hP : p + 1 = P) (hp : P < s.size) (hc : (s.data.toList[p]'(Nat.lt_trans (by omega) hp)).toNat = 36) (hc2 : (s.data.toList[P]'hp).toNat = 45) (hs : s.size ≤ 9223372036854775000) :
    Calls Tryd.prog 51 #[.pointer (some ⟨g, 0, none⟩), .int .i64 deep] w (RRepE w g s D ((skipS s.data.toList [45, 49, 13, 10] P).map fun q => (.mk 0 0 ⟨#[]⟩ [], ⟨q, t, i⟩))) := by
  have hN := next_ok _ g s p t i (h.ext ((Ext.refl w).alloc (.cells #[.int .i64 0, .int .i64 0, .string ⟨#[]⟩, .slice none 0 0] 41))) (by omega) (by omega)
  rw [hc] at hN
  have hpl : P < s.data.toList.length := hp
  have he : skipS s.data.toList [45, 49, 13, 10] P = mustS s.data.toList 10 (mustS s.data.toList 13 (skipS s.data.toList [49] (P + 1))) := by
    have h45 : s.data.toList[P] = 45 := UInt8.toNat_inj.mp hc2
    rw [must_skip, must_skip]
    conv => lhs; unfold skipS
    rw [dif_pos hpl, if_pos h45]
    rfl
  rw [he]
  rw [hP] at hN
  have HN := Lib.hid hN
  have HG := Lib.hid h.lt
  have hW1 := fun (w : World) (h : RBlk w g s ((P + 1 : Nat) : Int) 0 t i) => want_any 49 w g s t i (.ok (P + 1)) h (by decide) (by omega)
  have hW2 := fun (w : World) (r : Except Int Nat) (h : RefAt w g s t i r) => want_any 13 w g s t i r h (by decide) (by omega)
  have hW3 := fun (w : World) (r : Except Int Nat) (h : RefAt w g s t i r) => want_any 10 w g s t i r h (by decide) (by omega)
  have HW1 := Lib.hid hW1
  have HW2 := Lib.hid hW2
  have HW3 := Lib.hid hW3
  have d1 : decide ((P : Int) < (s.size : Int)) = true := decide_eq_true (by omega)
  have d1n : decide (P < s.size) = true := decide_eq_true hp
  have k0 : (0 : Int) ≤ (P : Int) := by omega
  have k1 : (P : Int) < (s.size : Int) := by omega
  have k2 : P ≤ 9223372036854775000 := by omega
  have x45 : (((s[P]'hp).toNat : Int) == 45) = true := beq_iff_eq.2 (by have h9 : (s[P]'hp).toNat = 45 := hc2; omega)
  clear hc hc2 hpl h hP hN he hW1 hW2 hW3
  go_enter Tryd.func51, Tryd.ntmps51
  go_wp2_with fail
  refine HN.out.mono ?_
  rintro e w1 ⟨rfl, b1, o1⟩
  have c0 := b1.cell 0
  have c1 := b1.cell 1
  have c2 := b1.cell 2
  have z1 := b1.frozen 1
  simp only [List.getElem?_toArray, List.getElem?_cons_zero, List.getElem?_cons_succ] at c0 c1 c2
  have HBR1 : Hid (Blk w1 w.heap.size 41 #[.int .i64 0, .int .i64 0, .string ⟨#[]⟩, .slice none 0 0]) := Lib.hid ((Blk.new w _ _).only o1 (by have := HG.out; omega))
  have HB1 := Lib.hid b1
  have HO1 := Lib.hid (((Only.refl g w).alloc (.cells #[.int .i64 0, .int .i64 0, .string ⟨#[]⟩, .slice none 0 0] 41)).trans o1)
  clear b1 o1 HN
  go_wp2_with fail
  go_quiet (fail)
  have E1 := Lib.hid ((Ext.refl w1).drewN nq)
  generalize w1.drewN nq = w2 at E1 ⊢
  replace c1 := E1.out.cell c1
  replace z1 : w2.frozen? ⟨g, 1, none⟩ = false := ((Ext.cells E1.out).2 g 1 HB1.out.lt).trans z1
  clear c0 c2
  go_wp2_with fail
  have B3 : RBlk (w2.setCell ⟨g, 1, none⟩ (.int .i64 ((P : Int) + 1))) g s ((P + 1 : Nat) : Int) 0 t i := rblk_at (HB1.out.ext E1.out) _
  have HB3 := Lib.hid B3
  have O3 := Lib.hid (((Only.of_ext (g := g) E1.out).set 1 (.int .i64 ((P : Int) + 1))))
  clear B3
  refine (HW1.out _ HB3.out).mono ?_
  rintro e w3 ⟨rfl, r3, o3⟩
  have R3 : Hid (RefAt w3 g s t i (skipS s.data.toList [49] (P + 1))) := Lib.hid r3
  have O4 := Lib.hid (O3.out.trans o3)
  clear r3 o3 O3 HB3 c1 z1
  go_wp2_with fail
  refine (HW2.out _ _ R3.out).mono ?_
  rintro e w4 ⟨rfl, r4, o4⟩
  have R4 := Lib.hid r4
  have O5 := Lib.hid (O4.out.trans o4)
  clear r4 o4 R3 O4
  go_wp2_with fail
  refine (HW3.out _ _ R4.out).mono ?_
  rintro e w5 ⟨rfl, r5, o5⟩
  have R5 := Lib.hid r5
  have O6 := Lib.hid (O5.out.trans o5)
  clear r5 o5 R4 O5
  have BR := HBR1.out.only O6.out (by have := HG.out; omega)
  have x0 := BR.cell 0
  have x1 := BR.cell 1
  have x2 := BR.cell 2
  have x3 := BR.cell 3
  have z0 := BR.frozen 0
  have z1 := BR.frozen 1
  have z2 := BR.frozen 2
  have z3 := BR.frozen 3
  simp only [List.getElem?_toArray, List.getElem?_cons_zero, List.getElem?_cons_succ] at x0 x1 x2 x3
  have HR := Lib.hid (rput4 (HO1.out.trans O6.out) (Nat.le_refl _) HG.out BR (.int .i64 0) (.int .i64 0) (.string ⟨#[]⟩) (.slice none 0 0))
  clear BR HBR1
  go_wp2_with fail
  have R := HR.out
  generalize (((w5.setCell ⟨w.heap.size, 0, none⟩ (.int .i64 0)).setCell ⟨w.heap.size, 1, none⟩ (.int .i64 0)).setCell ⟨w.heap.size, 2, none⟩ (.string ⟨#[]⟩)).setCell ⟨w.heap.size, 3, none⟩ (.slice none 0 0) = w6 at R ⊢
  obtain ⟨Q4, B4, R6⟩ := R
  have f0 := R6.cell 0
  have f1 := R6.cell 1
  have f2 := R6.cell 2
  have f3 := R6.cell 3
  simp only [List.getElem?_toArray, List.getElem?_cons_zero, List.getElem?_cons_succ] at f0 f1 f2 f3
  refine bodyPost_ret (v := .agg #[.int .i64 0, .int .i64 0, .string ⟨#[]⟩, .slice none 0 0]) (by simp [results, Tryd.results51, go_sem, f0, f1, f2, f3]) rfl ⟨Q4, 0, 0, ⟨#[]⟩, _, rfl, ⟨_, _, _, rfl⟩, ?_⟩
  have M := R5.out
  cases hk : mustS s.data.toList 10 (mustS s.data.toList 13 (skipS s.data.toList [49] (P + 1))) with
  | error c =>
    rw [hk] at M
    obtain ⟨hc, _, _, _, hb⟩ := M
    exact ⟨hc, _, _, _, B4 _ _ hb⟩
  | ok y =>
    rw [hk] at M
    exact ⟨rfl, rfl, rfl, nil_list _ _ _, B4 _ _ M⟩
-- reh2: written by gen/reh2.py
set_option maxRecDepth 100000 in
set_option maxHeartbeats 4000000 in
theorem rreply_text_at (deep : Int) (w : World) (g : Nat) (s : ByteArray) (p P t i : Nat) (D : Nat) (h : RBlk w g s p 0 t i) (hP : p + 1 = P) (hp : p < s.size) (hlt : P < s.size) (h45 : ¬ (s.data.toList[P]'hlt).toNat = 45) (hc : (s.data.toList[p]'hp).toNat = 36) (hs : s.size ≤ 9223372036854775000) (ht : t ≤ 1048576) :
    Calls Tryd.prog 51 #[.pointer (some ⟨g, 0, none⟩), .int .i64 deep] w (RRepE w g s D ((bulkS s.data.toList t P).map fun x => (.mk 4 0 x.1 [], ⟨x.2, t - x.1.size, i⟩))) := by
  have hN := next_ok _ g s p t i (h.ext ((Ext.refl w).alloc (.cells #[.int .i64 0, .int .i64 0, .string ⟨#[]⟩, .slice none 0 0] 41))) hp (by omega)
  rw [hc, hP] at hN
  have HN := Lib.hid hN
  have HG := Lib.hid h.lt
  have HPZ := Lib.hid (show P ≤ s.size by omega)
  have HS := Lib.hid hs
  have HT := Lib.hid ht
  have HL := Lib.hid (show s.data.toList.length = s.size from rfl)
  have d0 : IntKind.u64.wrap (t : Int) = (t : Int) := IntWalk.u64_in _ (by omega)
  have d1 : decide ((P : Int) < (s.size : Int)) = true := decide_eq_true (by omega)
  have d1n : decide (P < s.size) = true := decide_eq_true hlt
  have k0 : (0 : Int) ≤ (P : Int) := by omega
  have k1 : (P : Int) < (s.size : Int) := by omega
  have x45 : (((s[P]'hlt).toNat : Int) == 45) = false := beq_eq_false_iff_ne.2 (by have h9 : ¬ (s[P]'hlt).toNat = 45 := h45; omega)
  clear h45 hs ht
  clear hc h hN hP
  go_enter Tryd.func51, Tryd.ntmps51
  go_wp2_with fail
  refine HN.out.mono ?_
  rintro e w1 ⟨rfl, b1, o1⟩
  have c0 := b1.cell 0
  have c1 := b1.cell 1
  have c2 := b1.cell 2
  have c3 := b1.cell 3
  simp only [List.getElem?_toArray, List.getElem?_cons_zero, List.getElem?_cons_succ] at c0 c1 c2 c3
  have HBR1 : Hid (Blk w1 w.heap.size 41 #[.int .i64 0, .int .i64 0, .string ⟨#[]⟩, .slice none 0 0]) := Lib.hid ((Blk.new w _ _).only o1 (by have := HG.out; omega))
  have HB1 := Lib.hid b1
  have HO1 := Lib.hid (((Only.refl g w).alloc (.cells #[.int .i64 0, .int .i64 0, .string ⟨#[]⟩, .slice none 0 0] 41)).trans o1)
  clear b1 o1 HN
  go_wp2_with fail
  go_quiet (fail)
  have E1 := Lib.hid ((Ext.refl w1).drewN nq)
  generalize w1.drewN nq = w2 at E1 ⊢
  replace c3 := E1.out.cell c3
  have HB2 := Lib.hid (HB1.out.ext E1.out)
  have HO2 := Lib.hid (HO1.out.ext E1.out)
  have HBR2 := Lib.hid (HBR1.out.ext E1.out)
  clear c0 c1 c2 d1 d1n 
  go_wp2_with fail
  have hD : Calls Tryd.prog 47 #[.pointer (some ⟨g, 0, none⟩), .int .u64 0, .int .i64 0, .int .u64 0, .int .u64 (t : Int)] w2 (DigE w2 g s t i (numS s.data.toList 0 t (s.data.toList.length - P) 0 0 P)) := digits_any 0 0 0 t w2 g s P t i HB2.out (by omega) (by have := HT.out; omega) HS.out (by omega) (by omega)
  refine hD.mono ?_
  rintro e w3 ⟨o3, n, hn, rfl, hm⟩
  have HO3 := Lib.hid (HO2.out.trans o3)
  have HBR3 := Lib.hid (HBR2.out.only o3 (by have := HG.out; omega))
  clear o3 hD c3 d0 E1 HB1 HO1 HBR1 HB2 HO2 HBR2
  cases hx : numS s.data.toList 0 t (s.data.toList.length - P) 0 0 P with
  | error c =>
    rw [hx] at hm
    have HM : Hid (RefAt w3 g s t i (.error c)) := Lib.hid hm
    have HE : Hid (bulkS s.data.toList t P = .error c) := Lib.hid (by simp only [bulkS, hx])
    clear hm hx
    go_wp2_with fail
    refine (rtext_bad _ _ _ _ _ _ _ HM.out).mono ?_
    rintro e w4 ⟨rfl, e4⟩
    have HM4 : Hid (RefAt w4 g s t i (.error c)) := Lib.hid (by obtain ⟨hc, p', t', i', hb⟩ := HM.out; exact ⟨hc, _, _, _, hb.ext e4⟩)
    have HO4 := Lib.hid (HO3.out.ext e4)
    have BR := HBR3.out.ext e4
    clear e4 HM HO3 HBR3
    have x0 := BR.cell 0
    have x1 := BR.cell 1
    have x2 := BR.cell 2
    have x3 := BR.cell 3
    have z0 := BR.frozen 0
    have z1 := BR.frozen 1
    have z2 := BR.frozen 2
    have z3 := BR.frozen 3
    simp only [List.getElem?_toArray, List.getElem?_cons_zero, List.getElem?_cons_succ] at x0 x1 x2 x3
    have HR := Lib.hid (rput4 HO4.out (Nat.le_refl _) HG.out BR (.int .i64 4) (.int .i64 0) (.string ⟨#[]⟩) (.slice none 0 0))
    clear BR
    go_wp2_with fail
    have R := HR.out
    generalize (((w4.setCell ⟨w.heap.size, 0, none⟩ (.int .i64 4)).setCell ⟨w.heap.size, 1, none⟩ (.int .i64 0)).setCell ⟨w.heap.size, 2, none⟩ (.string ⟨#[]⟩)).setCell ⟨w.heap.size, 3, none⟩ (.slice none 0 0) = w6 at R ⊢
    obtain ⟨Q4, B4, R6⟩ := R
    have f0 := R6.cell 0
    have f1 := R6.cell 1
    have f2 := R6.cell 2
    have f3 := R6.cell 3
    simp only [List.getElem?_toArray, List.getElem?_cons_zero, List.getElem?_cons_succ] at f0 f1 f2 f3
    refine bodyPost_ret (v := .agg #[.int .i64 4, .int .i64 0, .string ⟨#[]⟩, .slice none 0 0]) (by simp [results, Tryd.results51, go_sem, f0, f1, f2, f3]) rfl ⟨Q4, 4, 0, ⟨#[]⟩, _, rfl, ⟨_, _, _, rfl⟩, ?_⟩
    rw [HE.out]
    obtain ⟨hc, _, _, _, hb⟩ := HM4.out
    exact ⟨hc, _, _, _, B4 _ _ hb⟩
  | ok x =>
    obtain ⟨n', q'⟩ := x
    rw [hx] at hm
    obtain ⟨rfl, hb2⟩ := hm
    have hpos := num_pos _ _ _ _ _ (by have := HPZ.out; have := HL.out; omega) (by omega) hx
    simp only at hpos
    have HE2 : Hid (bulkS s.data.toList t P = textS s.data.toList n q') := Lib.hid (by simp only [bulkS, hx])
    have HT2 := Lib.hid (rtext_any n w3 g s q' t i hb2 (by have := HL.out; omega) HS.out (by omega) (by have := HT.out; omega))
    have d1 : IntKind.i64.wrap (n : Int) = (n : Int) := IntWalk.i64_in _ (by have := HT.out; omega)
    have HX : Hid (∀ y : ByteArray × Nat, textS s.data.toList n q' = .ok y → y.1.size ≤ t) := Lib.hid (fun y hy => (bulk_pos (by have := HPZ.out; have := HL.out; omega) (HE2.out.trans hy)).1)
    clear hb2 hx hpos
    go_wp2_with fail
    refine HT2.out.mono ?_
    rintro e w4 ⟨o4, y, rfl, hm⟩
    have HM := Lib.hid hm
    have HO4 := Lib.hid (HO3.out.trans o4)
    have BR := HBR3.out.only o4 (by have := HG.out; omega)
    clear hm o4 HT2 HO3 HBR3
    have x0 := BR.cell 0
    have x1 := BR.cell 1
    have x2 := BR.cell 2
    have x3 := BR.cell 3
    have z0 := BR.frozen 0
    have z1 := BR.frozen 1
    have z2 := BR.frozen 2
    have z3 := BR.frozen 3
    simp only [List.getElem?_toArray, List.getElem?_cons_zero, List.getElem?_cons_succ] at x0 x1 x2 x3
    have HR := Lib.hid (rput4 HO4.out (Nat.le_refl _) HG.out BR (.int .i64 4) (.int .i64 0) (.string y) (.slice none 0 0))
    clear BR
    go_wp2_with fail
    have R := HR.out
    generalize (((w4.setCell ⟨w.heap.size, 0, none⟩ (.int .i64 4)).setCell ⟨w.heap.size, 1, none⟩ (.int .i64 0)).setCell ⟨w.heap.size, 2, none⟩ (.string y)).setCell ⟨w.heap.size, 3, none⟩ (.slice none 0 0) = w6 at R ⊢
    obtain ⟨Q4, B4, R6⟩ := R
    have f0 := R6.cell 0
    have f1 := R6.cell 1
    have f2 := R6.cell 2
    have f3 := R6.cell 3
    simp only [List.getElem?_toArray, List.getElem?_cons_zero, List.getElem?_cons_succ] at f0 f1 f2 f3
    refine bodyPost_ret (v := .agg #[.int .i64 4, .int .i64 0, .string y, .slice none 0 0]) (by simp [results, Tryd.results51, go_sem, f0, f1, f2, f3]) rfl ⟨Q4, 4, 0, y, _, rfl, ⟨_, _, _, rfl⟩, ?_⟩
    rw [HE2.out]
    have M := HM.out
    cases hk : textS s.data.toList n q' with
    | error c =>
      rw [hk] at M
      obtain ⟨hc, _, _, _, hb⟩ := M
      exact ⟨hc, _, _, _, B4 _ _ hb⟩
    | ok z =>
      rw [hk] at M
      obtain ⟨rfl, hb⟩ := M
      have hz := HX.out _ hk
      refine ⟨rfl, rfl, rfl, nil_list _ _ _, ?_⟩
      show RBlk _ g s (z.2 : Int) 0 ((t - z.1.size : Nat) : Int) (i : Int)
      rw [show ((t - z.1.size : Nat) : Int) = (t : Int) - (z.1.size : Int) by omega]
      exact B4 _ _ hb
set_option maxRecDepth 100000 in
set_option maxHeartbeats 4000000 in
theorem rreply_text_end (deep : Int) (w : World) (g : Nat) (s : ByteArray) (p P t i : Nat) (D : Nat) (h : RBlk w g s p 0 t i) (hP : p + 1 = P) (hp : p < s.size) (hlt : ¬ P < s.size) (hc : (s.data.toList[p]'hp).toNat = 36) (hs : s.size ≤ 9223372036854775000) (ht : t ≤ 1048576) :
    Calls Tryd.prog 51 #[.pointer (some ⟨g, 0, none⟩), .int .i64 deep] w (RRepE w g s D ((bulkS s.data.toList t P).map fun x => (.mk 4 0 x.1 [], ⟨x.2, t - x.1.size, i⟩))) := by
  have hN := next_ok _ g s p t i (h.ext ((Ext.refl w).alloc (.cells #[.int .i64 0, .int .i64 0, .string ⟨#[]⟩, .slice none 0 0] 41))) hp (by omega)
  rw [hc, hP] at hN
  have HN := Lib.hid hN
  have HG := Lib.hid h.lt
  have HPZ := Lib.hid (show P ≤ s.size by omega)
  have HS := Lib.hid hs
  have HT := Lib.hid ht
  have HL := Lib.hid (show s.data.toList.length = s.size from rfl)
  have d0 : IntKind.u64.wrap (t : Int) = (t : Int) := IntWalk.u64_in _ (by omega)
  have d1 : decide ((P : Int) < (s.size : Int)) = false := decide_eq_false (by omega)
  have d1n : decide (P < s.size) = false := decide_eq_false hlt
  clear hs ht
  clear hc h hN hP
  go_enter Tryd.func51, Tryd.ntmps51
  go_wp2_with fail
  refine HN.out.mono ?_
  rintro e w1 ⟨rfl, b1, o1⟩
  have c0 := b1.cell 0
  have c1 := b1.cell 1
  have c2 := b1.cell 2
  have c3 := b1.cell 3
  simp only [List.getElem?_toArray, List.getElem?_cons_zero, List.getElem?_cons_succ] at c0 c1 c2 c3
  have HBR1 : Hid (Blk w1 w.heap.size 41 #[.int .i64 0, .int .i64 0, .string ⟨#[]⟩, .slice none 0 0]) := Lib.hid ((Blk.new w _ _).only o1 (by have := HG.out; omega))
  have HB1 := Lib.hid b1
  have HO1 := Lib.hid (((Only.refl g w).alloc (.cells #[.int .i64 0, .int .i64 0, .string ⟨#[]⟩, .slice none 0 0] 41)).trans o1)
  clear b1 o1 HN
  go_wp2_with fail
  go_quiet (fail)
  have E1 := Lib.hid ((Ext.refl w1).drewN nq)
  generalize w1.drewN nq = w2 at E1 ⊢
  replace c3 := E1.out.cell c3
  have HB2 := Lib.hid (HB1.out.ext E1.out)
  have HO2 := Lib.hid (HO1.out.ext E1.out)
  have HBR2 := Lib.hid (HBR1.out.ext E1.out)
  clear c0 c1 c2 d1 d1n 
  go_wp2_with fail
  have hD : Calls Tryd.prog 47 #[.pointer (some ⟨g, 0, none⟩), .int .u64 0, .int .i64 0, .int .u64 0, .int .u64 (t : Int)] w2 (DigE w2 g s t i (numS s.data.toList 0 t (s.data.toList.length - P) 0 0 P)) := digits_any 0 0 0 t w2 g s P t i HB2.out (by omega) (by have := HT.out; omega) HS.out (by omega) (by omega)
  refine hD.mono ?_
  rintro e w3 ⟨o3, n, hn, rfl, hm⟩
  have HO3 := Lib.hid (HO2.out.trans o3)
  have HBR3 := Lib.hid (HBR2.out.only o3 (by have := HG.out; omega))
  clear o3 hD c3 d0 E1 HB1 HO1 HBR1 HB2 HO2 HBR2
  cases hx : numS s.data.toList 0 t (s.data.toList.length - P) 0 0 P with
  | error c =>
    rw [hx] at hm
    have HM : Hid (RefAt w3 g s t i (.error c)) := Lib.hid hm
    have HE : Hid (bulkS s.data.toList t P = .error c) := Lib.hid (by simp only [bulkS, hx])
    clear hm hx
    go_wp2_with fail
    refine (rtext_bad _ _ _ _ _ _ _ HM.out).mono ?_
    rintro e w4 ⟨rfl, e4⟩
    have HM4 : Hid (RefAt w4 g s t i (.error c)) := Lib.hid (by obtain ⟨hc, p', t', i', hb⟩ := HM.out; exact ⟨hc, _, _, _, hb.ext e4⟩)
    have HO4 := Lib.hid (HO3.out.ext e4)
    have BR := HBR3.out.ext e4
    clear e4 HM HO3 HBR3
    have x0 := BR.cell 0
    have x1 := BR.cell 1
    have x2 := BR.cell 2
    have x3 := BR.cell 3
    have z0 := BR.frozen 0
    have z1 := BR.frozen 1
    have z2 := BR.frozen 2
    have z3 := BR.frozen 3
    simp only [List.getElem?_toArray, List.getElem?_cons_zero, List.getElem?_cons_succ] at x0 x1 x2 x3
    have HR := Lib.hid (rput4 HO4.out (Nat.le_refl _) HG.out BR (.int .i64 4) (.int .i64 0) (.string ⟨#[]⟩) (.slice none 0 0))
    clear BR
    go_wp2_with fail
    have R := HR.out
    generalize (((w4.setCell ⟨w.heap.size, 0, none⟩ (.int .i64 4)).setCell ⟨w.heap.size, 1, none⟩ (.int .i64 0)).setCell ⟨w.heap.size, 2, none⟩ (.string ⟨#[]⟩)).setCell ⟨w.heap.size, 3, none⟩ (.slice none 0 0) = w6 at R ⊢
    obtain ⟨Q4, B4, R6⟩ := R
    have f0 := R6.cell 0
    have f1 := R6.cell 1
    have f2 := R6.cell 2
    have f3 := R6.cell 3
    simp only [List.getElem?_toArray, List.getElem?_cons_zero, List.getElem?_cons_succ] at f0 f1 f2 f3
    refine bodyPost_ret (v := .agg #[.int .i64 4, .int .i64 0, .string ⟨#[]⟩, .slice none 0 0]) (by simp [results, Tryd.results51, go_sem, f0, f1, f2, f3]) rfl ⟨Q4, 4, 0, ⟨#[]⟩, _, rfl, ⟨_, _, _, rfl⟩, ?_⟩
    rw [HE.out]
    obtain ⟨hc, _, _, _, hb⟩ := HM4.out
    exact ⟨hc, _, _, _, B4 _ _ hb⟩
  | ok x =>
    obtain ⟨n', q'⟩ := x
    rw [hx] at hm
    obtain ⟨rfl, hb2⟩ := hm
    have hpos := num_pos _ _ _ _ _ (by have := HPZ.out; have := HL.out; omega) (by omega) hx
    simp only at hpos
    have HE2 : Hid (bulkS s.data.toList t P = textS s.data.toList n q') := Lib.hid (by simp only [bulkS, hx])
    have HT2 := Lib.hid (rtext_any n w3 g s q' t i hb2 (by have := HL.out; omega) HS.out (by omega) (by have := HT.out; omega))
    have d1 : IntKind.i64.wrap (n : Int) = (n : Int) := IntWalk.i64_in _ (by have := HT.out; omega)
    have HX : Hid (∀ y : ByteArray × Nat, textS s.data.toList n q' = .ok y → y.1.size ≤ t) := Lib.hid (fun y hy => (bulk_pos (by have := HPZ.out; have := HL.out; omega) (HE2.out.trans hy)).1)
    clear hb2 hx hpos
    go_wp2_with fail
    refine HT2.out.mono ?_
    rintro e w4 ⟨o4, y, rfl, hm⟩
    have HM := Lib.hid hm
    have HO4 := Lib.hid (HO3.out.trans o4)
    have BR := HBR3.out.only o4 (by have := HG.out; omega)
    clear hm o4 HT2 HO3 HBR3
    have x0 := BR.cell 0
    have x1 := BR.cell 1
    have x2 := BR.cell 2
    have x3 := BR.cell 3
    have z0 := BR.frozen 0
    have z1 := BR.frozen 1
    have z2 := BR.frozen 2
    have z3 := BR.frozen 3
    simp only [List.getElem?_toArray, List.getElem?_cons_zero, List.getElem?_cons_succ] at x0 x1 x2 x3
    have HR := Lib.hid (rput4 HO4.out (Nat.le_refl _) HG.out BR (.int .i64 4) (.int .i64 0) (.string y) (.slice none 0 0))
    clear BR
    go_wp2_with fail
    have R := HR.out
    generalize (((w4.setCell ⟨w.heap.size, 0, none⟩ (.int .i64 4)).setCell ⟨w.heap.size, 1, none⟩ (.int .i64 0)).setCell ⟨w.heap.size, 2, none⟩ (.string y)).setCell ⟨w.heap.size, 3, none⟩ (.slice none 0 0) = w6 at R ⊢
    obtain ⟨Q4, B4, R6⟩ := R
    have f0 := R6.cell 0
    have f1 := R6.cell 1
    have f2 := R6.cell 2
    have f3 := R6.cell 3
    simp only [List.getElem?_toArray, List.getElem?_cons_zero, List.getElem?_cons_succ] at f0 f1 f2 f3
    refine bodyPost_ret (v := .agg #[.int .i64 4, .int .i64 0, .string y, .slice none 0 0]) (by simp [results, Tryd.results51, go_sem, f0, f1, f2, f3]) rfl ⟨Q4, 4, 0, y, _, rfl, ⟨_, _, _, rfl⟩, ?_⟩
    rw [HE2.out]
    have M := HM.out
    cases hk : textS s.data.toList n q' with
    | error c =>
      rw [hk] at M
      obtain ⟨hc, _, _, _, hb⟩ := M
      exact ⟨hc, _, _, _, B4 _ _ hb⟩
    | ok z =>
      rw [hk] at M
      obtain ⟨rfl, hb⟩ := M
      have hz := HX.out _ hk
      refine ⟨rfl, rfl, rfl, nil_list _ _ _, ?_⟩
      show RBlk _ g s (z.2 : Int) 0 ((t - z.1.size : Nat) : Int) (i : Int)
      rw [show ((t - z.1.size : Nat) : Int) = (t : Int) - (z.1.size : Int) by omega]
      exact B4 _ _ hb
theorem rreply_dollar (deep : Int) (w : World) (g : Nat) (s : ByteArray) (p t i : Nat) (D : Nat) (h : RBlk w g s p 0 t i) (hp : p < s.size) (hc : (s.data.toList[p]'hp).toNat = 36) (hs : s.size ≤ 9223372036854775000) (ht : t ≤ 1048576) :
    Calls Tryd.prog 51 #[.pointer (some ⟨g, 0, none⟩), .int .i64 deep] w (RRepE w g s D (dollarS s.data.toList ⟨p + 1, t, i⟩)) := by
  unfold dollarS
  by_cases hlt : p + 1 < s.size
  · have hpl : p + 1 < s.data.toList.length := hlt
    by_cases h45 : (s.data.toList[p + 1]'hlt).toNat = 45
    · rw [dif_pos ⟨hpl, by rw [getElem!_pos s.data.toList (p + 1) hpl]; exact h45⟩]
      exact rreply_none deep w g s p (p + 1) t i D h rfl hlt hc h45 hs
    · rw [dif_neg (isDash_no hpl h45)]
      exact rreply_text_at deep w g s p (p + 1) t i D h rfl hp hlt h45 hc hs ht
  · rw [dif_neg (fun h' => hlt h'.1)]
    exact rreply_text_end deep w g s p (p + 1) t i D h rfl hp hlt hc hs ht
end Go.Proofs.YtopdgmchkoaeeaaDoor
