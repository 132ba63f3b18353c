/- The document's reply, every sign; its Decode. -/
import Derived.Test.YtopdgmchkoaeeaaDoorReI
import Derived.Test.YtopdgmchkoaeeaaDoorRtA
namespace Go.Proofs.YtopdgmchkoaeeaaDoor
open Go.RowKit
set_option linter.unusedVariables false
set_option linter.unusedSimpArgs false

set_option maxRecDepth 100000 in
set_option maxHeartbeats 4000000 in
theorem rreply_star (deep : Int) (w : World) (g : Nat) (s : ByteArray) (p t i : Nat) (D : Nat) (r : Except Int (Rep × St)) (h : RBlk w g s p 0 t i) (hp : p < s.size) (hc : (s.data.toList[p]'hp).toNat = 42) (hs : s.size ≤ 9223372036854775000)
    (hl : ∀ W, RBlk W g s ((p + 1 : Nat) : Int) 0 t i → Calls Tryd.prog 72 #[.pointer (some ⟨g, 0, none⟩), .int .i64 deep] W (RRepE W g s D r)) :
    Calls Tryd.prog 51 #[.pointer (some ⟨g, 0, none⟩), .int .i64 deep] w (RRepE w g s D r) := by
  have HN := Lib.hid (next_ok _ g s p t i (h.ext ((Ext.refl w).alloc (.cells #[.int .i64 0, .int .i64 0, .string ⟨#[]⟩, .slice none 0 0] 41))) hp (by omega))
  rw [hc] at HN
  have HG := Lib.hid h.lt
  have HL := Lib.hid hl
  clear hc h hp hl hs
  go_enter Tryd.func51, Tryd.ntmps51
  go_wp2_with fail
  refine HN.out.mono ?_
  rintro e w1 ⟨rfl, b1, o1⟩
  have c2 := b1.cell 2
  simp only [List.getElem?_toArray, List.getElem?_cons_zero, List.getElem?_cons_succ] at c2
  have HP := Lib.hid (HL.out w1 b1)
  have HBR1 : Hid (Blk w1 w.heap.size 41 #[.int .i64 0, .int .i64 0, .string ⟨#[]⟩, .slice none 0 0]) := Lib.hid ((Blk.new w _ _).only o1 (by have := HG.out; omega))
  have HO1 := Lib.hid (((Only.refl g w).alloc (.cells #[.int .i64 0, .int .i64 0, .string ⟨#[]⟩, .slice none 0 0] 41)).trans o1)
  have HZ1 := Lib.hid (Only.lt1 o1)
  clear b1 o1 HN HL
  go_wp2_with fail
  refine HP.out.mono ?_
  rintro e w2 ⟨o2, k, n, x, lv, rfl, ⟨q9, m9, c9, rfl⟩, hm⟩
  have HM := Lib.hid hm
  have BR := HBR1.out.only o2 (by have := HG.out; omega)
  have x0 := BR.cell 0
  have x1 := BR.cell 1
  have x2 := BR.cell 2
  have x3 := BR.cell 3
  have z0 := BR.frozen 0
  have z1 := BR.frozen 1
  have z2 := BR.frozen 2
  have z3 := BR.frozen 3
  simp only [List.getElem?_toArray, List.getElem?_cons_zero, List.getElem?_cons_succ] at x0 x1 x2 x3
  have HR := Lib.hid (rput4 (HO1.out.trans o2) (Nat.le_refl _) HG.out BR (.int .i64 k) (.int .i64 n) (.string x) (.slice q9 m9 c9))
  clear o2 hm BR HP HBR1 c2
  go_wp2_with fail
  have R := HR.out
  have KL : ∀ l, ListAt (fun b => w1.heap.size ≤ b) w2 D (.slice q9 m9 c9) l → ListAt (fun b => w.heap.size ≤ b) ((((w2.setCell ⟨w.heap.size, 0, none⟩ (.int .i64 k)).setCell ⟨w.heap.size, 1, none⟩ (.int .i64 n)).setCell ⟨w.heap.size, 2, none⟩ (.string x)).setCell ⟨w.heap.size, 3, none⟩ (.slice q9 m9 c9)) D (.slice q9 m9 c9) l := fun l h =>
    h.keep (fun b' o' v hok hc => by have := HZ1.out; rw [cell_far (by omega), cell_far (by omega), cell_far (by omega), cell_far (by omega)]; exact hc) (fun b' _ hok => by have := HZ1.out; omega)
  generalize (((w2.setCell ⟨w.heap.size, 0, none⟩ (.int .i64 k)).setCell ⟨w.heap.size, 1, none⟩ (.int .i64 n)).setCell ⟨w.heap.size, 2, none⟩ (.string x)).setCell ⟨w.heap.size, 3, none⟩ (.slice q9 m9 c9) = w4 at R KL ⊢
  obtain ⟨O4, B4, R4⟩ := R
  have f0 := R4.cell 0
  have f1 := R4.cell 1
  have f2 := R4.cell 2
  have f3 := R4.cell 3
  simp only [List.getElem?_toArray, List.getElem?_cons_zero, List.getElem?_cons_succ] at f0 f1 f2 f3
  refine bodyPost_ret (v := .agg #[.int .i64 k, .int .i64 n, .string x, .slice q9 m9 c9]) (by simp [results, Tryd.results51, go_sem, f0, f1, f2, f3]) rfl ⟨O4, k, n, x, _, rfl, ⟨_, _, _, rfl⟩, ?_⟩
  have M := HM.out
  cases r with
  | error c =>
    obtain ⟨hc, _, _, _, hb⟩ := M
    exact ⟨hc, _, _, _, B4 _ _ hb⟩
  | ok y =>
    obtain ⟨h1, h2, h3, hv, hb⟩ := M
    exact ⟨h1, h2, h3, KL _ hv, B4 _ _ hb⟩
/-- All signs but a list's. -/
theorem rreply_kind (deep : Int) (w : World) (g : Nat) (s : ByteArray) (p t i : Nat) (D : Nat) (sub : Option (St → Except Int (Rep × St))) (h : RBlk w g s p 0 t i) (hp : p < s.size) (hs : s.size ≤ 9223372036854775000) (ht : t ≤ 1048576)
    (h42 : (s.data.toList[p]'hp).toNat = 42 → Calls Tryd.prog 51 #[.pointer (some ⟨g, 0, none⟩), .int .i64 deep] w (RRepE w g s D (kindS s.data.toList sub 42 ⟨p + 1, t, i⟩))) :
    Calls Tryd.prog 51 #[.pointer (some ⟨g, 0, none⟩), .int .i64 deep] w (RRepE w g s D (kindS s.data.toList sub (s.data.toList[p]'hp).toNat ⟨p + 1, t, i⟩)) := by
  by_cases h1 : (s.data.toList[p]'hp).toNat = 43
  · rw [h1]; exact rreply_status deep w g s p t i D h hp h1 hs ht
  · by_cases h2 : (s.data.toList[p]'hp).toNat = 45
    · rw [h2]; exact rreply_error deep w g s p t i D h hp h2 hs ht
    · by_cases h3 : (s.data.toList[p]'hp).toNat = 58
      · rw [h3]; exact rreply_int deep w g s p t i D h hp h3 hs ht
      · by_cases h4 : (s.data.toList[p]'hp).toNat = 36
        · rw [h4]; exact rreply_dollar deep w g s p t i D h hp h4 hs ht
        · by_cases h5 : (s.data.toList[p]'hp).toNat = 42
          · rw [h5]; exact h42 h5
          · have e : kindS s.data.toList sub (s.data.toList[p]'hp).toNat ⟨p + 1, t, i⟩ = .error 131 := by
              unfold kindS
              rw [if_neg h1, if_neg h2, if_neg h3, if_neg h4, if_neg h5]
            rw [e]
            exact rreply_no deep w g s p t i D h hp h1 h2 h3 h4 h5 hs
theorem rreply_any (g : Nat) (s : ByteArray) (hs : s.size ≤ 9223372036854775000) : ∀ (d : Nat), d ≤ 1000 → ∀ (w : World) (p t i : Nat), RBlk w g s p 0 t i → p ≤ s.size → t ≤ 1048576 → i ≤ 65536 →
    Calls Tryd.prog 51 #[.pointer (some ⟨g, 0, none⟩), .int .i64 (d : Int)] w (RRepE w g s d (replyS s.data.toList d ⟨p, t, i⟩))
  | 0, hd, w, p, t, i, h, hp, ht, hi => by
    by_cases hpl : p < s.size
    · have hpl' : p < s.data.toList.length := hpl
      simp only [replyS, dif_pos hpl']
      refine rreply_kind _ w g s p t i 0 none h hpl hs ht (fun h42 => ?_)
      refine rreply_star _ w g s p t i 0 _ h hpl h42 hs (fun W hW => ?_)
      exact rlist_zero W g s (p + 1) t i 0 hW hi
    · have hpl' : ¬ p < s.data.toList.length := hpl
      simp only [replyS, dif_neg hpl']
      exact rreply_end _ w g s p t i 0 h hpl
  | d + 1, hd, w, p, t, i, h, hp, ht, hi => by
    by_cases hpl : p < s.size
    · have hpl' : p < s.data.toList.length := hpl
      simp only [replyS, dif_pos hpl']
      refine rreply_kind _ w g s p t i (d + 1) (some (replyS s.data.toList d)) h hpl hs ht (fun h42 => ?_)
      refine rreply_star _ w g s p t i (d + 1) _ h hpl h42 hs (fun W hW => ?_)
      have hd1 : ((d + 1 : Nat) : Int) - 1 = (d : Int) := by omega
      refine rlist_any W g s d (p + 1) t i _ hW hpl hs ht hi (by omega) (by omega) ?_
      rw [hd1]
      exact fun W' p' t' i' h1 h2 h3 h4 => rreply_any g s hs d (by omega) W' p' t' i' h1 h2 h3 h4
    · have hpl' : ¬ p < s.data.toList.length := hpl
      simp only [replyS, dif_neg hpl']
      exact rreply_end _ w g s p t i (d + 1) h hpl
set_option maxRecDepth 100000 in
set_option maxHeartbeats 4000000 in
theorem rdecode_any (w : World) (s : ByteArray) (hs : s.size ≤ 9223372036854775000) :
    Calls Tryd.prog 21 #[.string s] w (DecE w (decodeS s.data.toList)) := by
  obtain ⟨r, hr⟩ : ∃ r, decodeS s.data.toList = r := ⟨_, rfl⟩
  rw [hr]
  unfold decodeS at hr
  obtain ⟨B, hB⟩ : ∃ B, w.heap.size = B := ⟨_, rfl⟩
  have HB := Lib.hid hB
  have HE := Lib.hid (((Ext.refl w).alloc (.cells #[.int .i64 0, .int .i64 0, .string ⟨#[]⟩, .slice none 0 0] 41)).alloc (.cells #[.string s, .int .i64 0, .int .i64 0, .int .i64 1048576, .int .i64 65536] 91))
  have HT : Hid (Blk ((w.alloc (.cells #[.int .i64 0, .int .i64 0, .string ⟨#[]⟩, .slice none 0 0] 41)).alloc (.cells #[.string s, .int .i64 0, .int .i64 0, .int .i64 1048576, .int .i64 65536] 91)) w.heap.size 41 #[.int .i64 0, .int .i64 0, .string ⟨#[]⟩, .slice none 0 0]) := Lib.hid ((Blk.new w _ _).alloc _)
  have HQ : Hid (RBlk ((w.alloc (.cells #[.int .i64 0, .int .i64 0, .string ⟨#[]⟩, .slice none 0 0] 41)).alloc (.cells #[.string s, .int .i64 0, .int .i64 0, .int .i64 1048576, .int .i64 65536] 91)) (w.heap.size + 1) s ((0 : Nat) : Int) 0 ((1048576 : Nat) : Int) ((65536 : Nat) : Int)) := Lib.hid (by
    have := Blk.new (w.alloc (.cells #[.int .i64 0, .int .i64 0, .string ⟨#[]⟩, .slice none 0 0] 41)) 91 #[.string s, .int .i64 0, .int .i64 0, .int .i64 1048576, .int .i64 65536]
    rwa [size_alloc] at this)
  have HSZ : Hid (w.heap.size + 2 ≤ ((w.alloc (.cells #[.int .i64 0, .int .i64 0, .string ⟨#[]⟩, .slice none 0 0] 41)).alloc (.cells #[.string s, .int .i64 0, .int .i64 0, .int .i64 1048576, .int .i64 65536] 91)).heap.size) := Lib.hid (by rw [size_alloc, size_alloc]; omega)
  have HR := Lib.hid hr
  clear hr hB
  go_enter Tryd.func21, Tryd.ntmps21
  go_wp2_with fail
  have cS := rreply_any (w.heap.size + 1) s hs 100 (by omega) _ 0 1048576 65536 HQ.out (by omega) (by omega) (by omega)
  rw [HR.out] at cS
  generalize (w.alloc (.cells #[.int .i64 0, .int .i64 0, .string ⟨#[]⟩, .slice none 0 0] 41)).alloc (.cells #[.string s, .int .i64 0, .int .i64 0, .int .i64 1048576, .int .i64 65536] 91) = w0 at HE HT HQ HSZ cS ⊢
  have HB' := HB.out
  rw [HB'] at HT HQ HSZ cS
  rw [HB']
  obtain ⟨G, hG⟩ : ∃ G, B + 1 = G := ⟨_, rfl⟩
  rw [hG] at HQ cS ⊢
  have HGB := Lib.hid hG
  clear HB' hG
  refine cS.mono ?_
  rintro e w1 ⟨o1, k, n, x, lv, rfl, ⟨q9, m9, c9, rfl⟩, hm⟩
  have HO1 := Lib.hid o1
  have HM := Lib.hid hm
  have HT1 := Lib.hid (HT.out.only o1 (by have := HGB.out; omega))
  have HE1 := Lib.hid (Only.to_ext o1 HE.out (by have := HB.out; have := HGB.out; omega))
  have HS1 := Lib.hid (Nat.le_trans HSZ.out o1.le)
  clear cS o1 HQ HT hm
  cases r with
  | error c =>
    obtain ⟨hc, p', t', i', hb⟩ := HM.out
    have c2 := hb.cell 2
    simp only [List.getElem?_toArray, List.getElem?_cons_zero, List.getElem?_cons_succ] at c2
    have e0 : (c != 0) = true := by simpa using hc
    have hl : G < w1.heap.size := by have := HS1.out; have := HGB.out; omega
    have hn : ¬ G = w1.heap.size := by have := HS1.out; have := HGB.out; omega
    clear hb hc HM
    go_wp2_with fail
    generalize hw2 : w1.alloc (.cells #[.int .i64 k, .int .i64 n, .string x, .slice q9 m9 c9] 41) = w2
    have E2 : Ext w1 w2 := hw2 ▸ (Ext.refl w1).alloc _
    have c2 := E2.cell c2
    have T2 := HT1.out.ext E2
    have b0 := T2.cell 0
    have b1 := T2.cell 1
    have b2 := T2.cell 2
    have b3 := T2.cell 3
    have z0 := T2.frozen 0
    have z1 := T2.frozen 1
    have z2 := T2.frozen 2
    have z3 := T2.frozen 3
    simp only [List.getElem?_toArray, List.getElem?_cons_zero, List.getElem?_cons_succ] at b0 b1 b2 b3
    have HE2 := Lib.hid (HE1.out.trans E2)
    have HT2 := Lib.hid T2
    have hgb : ¬ G = B := by have := HGB.out; omega
    have hbg : ¬ B = G := by have := HGB.out; omega
    clear hw2 E2 T2 hn hl HT1 HE1 HO1
    go_region
    all_goals
      go_wp2_with fail
      have R := put4 HT2.out (.int .i64 0) (.int .i64 0) (.string ⟨#[]⟩) (.slice none 0 0)
      have hB := HB.out
      have EX : Ext w ((((w2.setCell ⟨B, 0, none⟩ (.int .i64 0)).setCell ⟨B, 1, none⟩ (.int .i64 0)).setCell ⟨B, 2, none⟩ (.string ⟨#[]⟩)).setCell ⟨B, 3, none⟩ (.slice none 0 0)) := (((HE2.out.setCell (by show w.heap.size ≤ B; omega) _).setCell (by show w.heap.size ≤ B; omega) _).setCell (by show w.heap.size ≤ B; omega) _).setCell (by show w.heap.size ≤ B; omega) _
      generalize (((w2.setCell ⟨B, 0, none⟩ (.int .i64 0)).setCell ⟨B, 1, none⟩ (.int .i64 0)).setCell ⟨B, 2, none⟩ (.string ⟨#[]⟩)).setCell ⟨B, 3, none⟩ (.slice none 0 0) = w3 at R EX ⊢
      have f0 := R.cell 0
      have f1 := R.cell 1
      have f2 := R.cell 2
      have f3 := R.cell 3
      simp only [List.getElem?_toArray, List.getElem?_cons_zero, List.getElem?_cons_succ] at f0 f1 f2 f3
      exact bodyPost_ret (v := .tuple #[.agg #[.int .i64 0, .int .i64 0, .string ⟨#[]⟩, .slice none 0 0], .int .i64 0, .int .i64 c]) (by simp [results, Tryd.results21, go_sem, f0, f1, f2, f3]) rfl (DecE.err rfl rfl EX.drew)
  | ok y =>
    obtain ⟨rfl, rfl, rfl, hv, hb⟩ := HM.out
    have c1 := hb.cell 1
    have c2 := hb.cell 2
    simp only [List.getElem?_toArray, List.getElem?_cons_zero, List.getElem?_cons_succ] at c1 c2
    have hl : G < w1.heap.size := by have := HS1.out; have := HGB.out; omega
    have hn : ¬ G = w1.heap.size := by have := HS1.out; have := HGB.out; omega
    have HV := Lib.hid hv
    have HZ := Lib.hid (show B < w1.heap.size by have := HS1.out; omega)
    clear hb hv HM
    go_wp2_with fail
    obtain ⟨M, hM⟩ : ∃ M, w1.heap.size = M := ⟨_, rfl⟩
    have HMM := Lib.hid hM
    generalize hw2 : w1.alloc (.cells #[.int .i64 y.1.k, .int .i64 y.1.n, .string y.1.s, .slice q9 m9 c9] 41) = w2
    have E2 : Ext w1 w2 := hw2 ▸ (Ext.refl w1).alloc _
    have X2 : Blk w2 w1.heap.size 41 #[.int .i64 y.1.k, .int .i64 y.1.n, .string y.1.s, .slice q9 m9 c9] := hw2 ▸ Blk.new w1 _ _
    have c1 := E2.cell c1
    have c2 := E2.cell c2
    have T2 := HT1.out.ext E2
    have b0 := T2.cell 0
    have b1 := T2.cell 1
    have b2 := T2.cell 2
    have b3 := T2.cell 3
    have z0 := T2.frozen 0
    have z1 := T2.frozen 1
    have z2 := T2.frozen 2
    have z3 := T2.frozen 3
    rw [hM] at X2 hn hl ⊢
    have a0 := X2.cell 0
    have a1 := X2.cell 1
    have a2 := X2.cell 2
    have a3 := X2.cell 3
    simp only [List.getElem?_toArray, List.getElem?_cons_zero, List.getElem?_cons_succ] at a0 a1 a2 a3 b0 b1 b2 b3
    have HE2 := Lib.hid (HE1.out.trans E2)
    have HT2 := Lib.hid T2
    have HV2 := Lib.hid (HV.out.ext E2)
    have hne : ¬ M = B := by have := HZ.out; omega
    have hgb : ¬ G = B := by have := HGB.out; omega
    have hbg : ¬ B = G := by have := HGB.out; omega
    clear hw2 E2 T2 hn hl HT1 HE1 HO1 X2 hM
    go_region
    all_goals
      go_wp2_with fail
      have R := put4 HT2.out (.int .i64 y.1.k) (.int .i64 y.1.n) (.string y.1.s) (.slice q9 m9 c9)
      have hB := HB.out
      have EX : Ext w ((((w2.setCell ⟨B, 0, none⟩ (.int .i64 y.1.k)).setCell ⟨B, 1, none⟩ (.int .i64 y.1.n)).setCell ⟨B, 2, none⟩ (.string y.1.s)).setCell ⟨B, 3, none⟩ (.slice q9 m9 c9)) := (((HE2.out.setCell (by show w.heap.size ≤ B; omega) _).setCell (by show w.heap.size ≤ B; omega) _).setCell (by show w.heap.size ≤ B; omega) _).setCell (by show w.heap.size ≤ B; omega) _
      have KL : ListAt (fun b => w.heap.size ≤ b) ((((w2.setCell ⟨B, 0, none⟩ (.int .i64 y.1.k)).setCell ⟨B, 1, none⟩ (.int .i64 y.1.n)).setCell ⟨B, 2, none⟩ (.string y.1.s)).setCell ⟨B, 3, none⟩ (.slice q9 m9 c9)).drew 100 (.slice q9 m9 c9) y.1.l :=
        HV2.out.keep (fun b' o' v hok hc => by have := HSZ.out; rw [World.cell?_drew, cell_far (by omega), cell_far (by omega), cell_far (by omega), cell_far (by omega)]; exact hc) (fun b' _ hok => by have := HSZ.out; omega)
      generalize (((w2.setCell ⟨B, 0, none⟩ (.int .i64 y.1.k)).setCell ⟨B, 1, none⟩ (.int .i64 y.1.n)).setCell ⟨B, 2, none⟩ (.string y.1.s)).setCell ⟨B, 3, none⟩ (.slice q9 m9 c9) = w3 at R EX KL ⊢
      have f0 := R.cell 0
      have f1 := R.cell 1
      have f2 := R.cell 2
      have f3 := R.cell 3
      simp only [List.getElem?_toArray, List.getElem?_cons_zero, List.getElem?_cons_succ] at f0 f1 f2 f3
      exact bodyPost_ret (v := .tuple #[.agg #[.int .i64 y.1.k, .int .i64 y.1.n, .string y.1.s, .slice q9 m9 c9], .int .i64 (y.2.p : Int), .int .i64 0]) (by simp [results, Tryd.results21, go_sem, f0, f1, f2, f3]) rfl (DecE.ok rfl ⟨_, rfl, ⟨_, rfl, KL⟩, EX.drew⟩)
end Go.Proofs.YtopdgmchkoaeeaaDoor
