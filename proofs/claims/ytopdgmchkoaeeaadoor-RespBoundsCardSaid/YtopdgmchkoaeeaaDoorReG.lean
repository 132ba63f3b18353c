/- The document's reply: where no list is read. -/
import Derived.Test.YtopdgmchkoaeeaaDoorReF
import Derived.Test.YtopdgmchkoaeeaaDoorRsK
namespace Go.Proofs.YtopdgmchkoaeeaaDoor
open Go.RowKit
set_option linter.unusedVariables false
set_option linter.unusedSimpArgs false

/-- What reply, list leave. -/
def RRepE (w : World) (g : Nat) (s : ByteArray) (D : Nat) (r : Except Int (Rep × St)) (e : Ending) (w' : World) : Prop :=
  Only g w w' ∧ ∃ (k n : Int) (x : ByteArray) (lv : Value), e = .returned (.agg #[.int .i64 k, .int .i64 n, .string x, lv]) ∧ (∃ q m c, lv = .slice q m c) ∧ (match r with
    | .ok y => k = y.1.k ∧ n = y.1.n ∧ x = y.1.s ∧ ListAt (fun b => w.heap.size ≤ b) w' D lv y.1.l ∧ RBlk w' g s (y.2.p : Int) 0 (y.2.texts : Int) (y.2.items : Int)
    | .error c => RefAt w' g s 0 0 (.error c))
theorem rput4 {w w1 : World} {g R : Nat} {a b c d : Value} (ho : Only g w w1) (hR : w.heap.size ≤ R) (hg : g < w.heap.size) (hb : Blk w1 R 41 #[a, b, c, d]) (x0 x1 x2 x3 : Value) :
    Only g w ((((w1.setCell ⟨R, 0, none⟩ x0).setCell ⟨R, 1, none⟩ x1).setCell ⟨R, 2, none⟩ x2).setCell ⟨R, 3, none⟩ x3) ∧
    (∀ t cs, Blk w1 g t cs → Blk ((((w1.setCell ⟨R, 0, none⟩ x0).setCell ⟨R, 1, none⟩ x1).setCell ⟨R, 2, none⟩ x2).setCell ⟨R, 3, none⟩ x3) g t cs) ∧
    Blk ((((w1.setCell ⟨R, 0, none⟩ x0).setCell ⟨R, 1, none⟩ x1).setCell ⟨R, 2, none⟩ x2).setCell ⟨R, 3, none⟩ x3) R 41 #[x0, x1, x2, x3] := by
  refine ⟨(((ho.setCell (.inr hR) _).setCell (.inr hR) _).setCell (.inr hR) _).setCell (.inr hR) _, fun t cs h => ?_, ?_⟩
  · have hn : g ≠ R := by omega
    exact (((h.far (p := ⟨R, 0, none⟩) hn x0).far (p := ⟨R, 1, none⟩) hn x1).far (p := ⟨R, 2, none⟩) hn x2).far (p := ⟨R, 3, none⟩) hn x3
  · simpa using (((hb.set_ 0 x0).set_ 1 x1).set_ 2 x2).set_ 3 x3
set_option maxRecDepth 100000 in
set_option maxHeartbeats 4000000 in
theorem rreply_end (deep : Int) (w : World) (g : Nat) (s : ByteArray) (p : Nat) (t i : Int) (D : Nat) (h : RBlk w g s p 0 t i) (hp : ¬ p < s.size) :
    Calls Tryd.prog 51 #[.pointer (some ⟨g, 0, none⟩), .int .i64 deep] w (RRepE w g s D (.error 130)) := by
  have hN := fun w1 (he : Ext w w1) => next_end w1 g s p t i (h.ext he) hp
  have HN := Lib.hid hN
  clear hN hp
  go_enter Tryd.func51, Tryd.ntmps51
  go_wp2_with fail
  refine (HN.out _ ((Ext.refl w).alloc _)).mono ?_
  rintro e w1 ⟨rfl, b1, o1⟩
  have c2 := b1.cell 2
  simp only [List.getElem?_toArray, List.getElem?_cons_zero, List.getElem?_cons_succ] at c2
  have HB1 := Lib.hid b1
  have HO1 := Lib.hid (((Only.refl g w).alloc _).trans o1)
  have HG := Lib.hid h.lt
  have BR : Blk w1 w.heap.size 41 #[.int .i64 0, .int .i64 0, .string ⟨#[]⟩, .slice none 0 0] := (Blk.new w _ _).only o1 (by have := h.lt; omega)
  have z0 := BR.frozen 0
  have x0 := BR.cell 0
  have x1 := BR.cell 1
  have x2 := BR.cell 2
  have x3 := BR.cell 3
  have z1 := BR.frozen 1
  have z2 := BR.frozen 2
  have z3 := BR.frozen 3
  simp only [List.getElem?_toArray, List.getElem?_cons_zero, List.getElem?_cons_succ] at x0 x1 x2 x3
  have HBR := Lib.hid BR
  clear b1 o1 HN BR h
  have R := rput4 HO1.out (Nat.le_refl _) HG.out HBR.out (.int .i64 0) (.int .i64 0) (.string ⟨#[]⟩) (.slice none 0 0)
  go_wp2_with fail
  generalize (((w1.setCell ⟨w.heap.size, 0, none⟩ (.int .i64 0)).setCell ⟨w.heap.size, 1, none⟩ (.int .i64 0)).setCell ⟨w.heap.size, 2, none⟩ (.string ⟨#[]⟩)).setCell ⟨w.heap.size, 3, none⟩ (.slice none 0 0) = w4 at R ⊢
  obtain ⟨O4, B4, R4⟩ := R
  have e0 := R4.cell 0
  have e1 := R4.cell 1
  have e2 := R4.cell 2
  have e3 := R4.cell 3
  simp only [List.getElem?_toArray, List.getElem?_cons_zero, List.getElem?_cons_succ] at e0 e1 e2 e3
  exact bodyPost_ret (v := .agg #[.int .i64 0, .int .i64 0, .string ⟨#[]⟩, .slice none 0 0]) (by simp [results, Tryd.results51, go_sem, e0, e1, e2, e3]) rfl ⟨O4, 0, 0, ⟨#[]⟩, _, rfl, ⟨_, _, _, rfl⟩, ⟨by decide, _, _, _, B4 _ _ HB1.out⟩⟩
set_option maxRecDepth 100000 in
set_option maxHeartbeats 4000000 in
theorem rreply_bad (deep : Int) (w : World) (g : Nat) (s : ByteArray) (p x t i : Int) (D : Nat) (h : RBlk w g s p x t i) (hx : x ≠ 0) :
    Calls Tryd.prog 51 #[.pointer (some ⟨g, 0, none⟩), .int .i64 deep] w (RRepE w g s D (.error x)) := by
  have hN := fun w1 (he : Ext w w1) => next_bad w1 g s p x t i (h.ext he) hx
  have HN := Lib.hid hN
  have HX := Lib.hid hx
  have e0 : (x != 0) = true := by simpa using hx
  clear hN hx
  go_enter Tryd.func51, Tryd.ntmps51
  go_wp2_with fail
  refine (HN.out _ ((Ext.refl w).alloc _)).mono ?_
  rintro e w1 ⟨rfl, e1⟩
  have b1 := h.ext (((Ext.refl w).alloc (.cells #[.int .i64 0, .int .i64 0, .string ⟨#[]⟩, .slice none 0 0] 41)).trans e1)
  have o1 := Only.of_ext (g := g) e1
  have c2 := b1.cell 2
  simp only [List.getElem?_toArray, List.getElem?_cons_zero, List.getElem?_cons_succ] at c2
  have HB1 := Lib.hid b1
  have HO1 := Lib.hid (((Only.refl g w).alloc _).trans o1)
  have HG := Lib.hid h.lt
  have BR : Blk w1 w.heap.size 41 #[.int .i64 0, .int .i64 0, .string ⟨#[]⟩, .slice none 0 0] := (Blk.new w _ _).only o1 (by have := h.lt; omega)
  have z0 := BR.frozen 0
  have x0 := BR.cell 0
  have x1 := BR.cell 1
  have x2 := BR.cell 2
  have x3 := BR.cell 3
  have z1 := BR.frozen 1
  have z2 := BR.frozen 2
  have z3 := BR.frozen 3
  simp only [List.getElem?_toArray, List.getElem?_cons_zero, List.getElem?_cons_succ] at x0 x1 x2 x3
  have HBR := Lib.hid BR
  clear b1 o1 e1 HN BR h
  have R := rput4 HO1.out (Nat.le_refl _) HG.out HBR.out (.int .i64 0) (.int .i64 0) (.string ⟨#[]⟩) (.slice none 0 0)
  go_wp2_with fail
  generalize (((w1.setCell ⟨w.heap.size, 0, none⟩ (.int .i64 0)).setCell ⟨w.heap.size, 1, none⟩ (.int .i64 0)).setCell ⟨w.heap.size, 2, none⟩ (.string ⟨#[]⟩)).setCell ⟨w.heap.size, 3, none⟩ (.slice none 0 0) = w4 at R ⊢
  obtain ⟨O4, B4, R4⟩ := R
  have f0 := R4.cell 0
  have f1 := R4.cell 1
  have f2 := R4.cell 2
  have f3 := R4.cell 3
  simp only [List.getElem?_toArray, List.getElem?_cons_zero, List.getElem?_cons_succ] at f0 f1 f2 f3
  exact bodyPost_ret (v := .agg #[.int .i64 0, .int .i64 0, .string ⟨#[]⟩, .slice none 0 0]) (by simp [results, Tryd.results51, go_sem, f0, f1, f2, f3]) rfl ⟨O4, 0, 0, ⟨#[]⟩, _, rfl, ⟨_, _, _, rfl⟩, ⟨HX.out, _, _, _, B4 _ _ HB1.out⟩⟩
set_option maxRecDepth 100000 in
set_option maxHeartbeats 4000000 in
theorem rreply_status (deep : Int) (w : World) (g : Nat) (s : ByteArray) (p t i : Nat) (D : Nat) (h : RBlk w g s p 0 t i) (hp : p < s.size) (hc : (s.data.toList[p]'hp).toNat = 43) (hs : s.size ≤ 9223372036854775000) (ht : t ≤ 1048576) :
    Calls Tryd.prog 51 #[.pointer (some ⟨g, 0, none⟩), .int .i64 deep] w (RRepE w g s D ((lineS' s.data.toList t (p + 1)).map fun x => (.mk 1 0 x.1 [], ⟨x.2.1, x.2.2, i⟩))) := by
  have HN := Lib.hid (next_ok _ g s p t i (h.ext ((Ext.refl w).alloc (.cells #[.int .i64 0, .int .i64 0, .string ⟨#[]⟩, .slice none 0 0] 41))) hp (by omega))
  rw [hc] at HN
  have HPZ := Lib.hid (show p + 1 ≤ s.size by omega)
  have HG := Lib.hid h.lt
  clear hc h hp
  go_enter Tryd.func51, Tryd.ntmps51
  go_wp2_with fail
  refine HN.out.mono ?_
  rintro e w1 ⟨rfl, b1, o1⟩
  have c2 := b1.cell 2
  simp only [List.getElem?_toArray, List.getElem?_cons_zero, List.getElem?_cons_succ] at c2
  have HP := Lib.hid (rplain_any w1 g s (p + 1) t i b1 HPZ.out hs ht)
  have HBR1 : Hid (Blk w1 w.heap.size 41 #[.int .i64 0, .int .i64 0, .string ⟨#[]⟩, .slice none 0 0]) := Lib.hid ((Blk.new w _ _).only o1 (by have := HG.out; omega))
  have HO1 := Lib.hid (((Only.refl g w).alloc (.cells #[.int .i64 0, .int .i64 0, .string ⟨#[]⟩, .slice none 0 0] 41)).trans o1)
  clear b1 o1 HN
  go_wp2_with fail
  refine HP.out.mono ?_
  rintro e w2 ⟨o2, x, rfl, hm⟩
  have HM := Lib.hid hm
  have BR := HBR1.out.only o2 (by have := HG.out; omega)
  have x0 := BR.cell 0
  have x1 := BR.cell 1
  have x2 := BR.cell 2
  have x3 := BR.cell 3
  have z0 := BR.frozen 0
  have z1 := BR.frozen 1
  have z2 := BR.frozen 2
  have z3 := BR.frozen 3
  simp only [List.getElem?_toArray, List.getElem?_cons_zero, List.getElem?_cons_succ] at x0 x1 x2 x3
  have R := rput4 (HO1.out.trans o2) (Nat.le_refl _) HG.out BR (.int .i64 1) (.int .i64 0) (.string x) (.slice none 0 0)
  have HR := Lib.hid R
  clear o2 hm BR R HP HBR1 c2
  go_wp2_with fail
  have R := HR.out
  generalize (((w2.setCell ⟨w.heap.size, 0, none⟩ (.int .i64 1)).setCell ⟨w.heap.size, 1, none⟩ (.int .i64 0)).setCell ⟨w.heap.size, 2, none⟩ (.string x)).setCell ⟨w.heap.size, 3, none⟩ (.slice none 0 0) = w4 at R ⊢
  obtain ⟨O4, B4, R4⟩ := R
  have f0 := R4.cell 0
  have f1 := R4.cell 1
  have f2 := R4.cell 2
  have f3 := R4.cell 3
  simp only [List.getElem?_toArray, List.getElem?_cons_zero, List.getElem?_cons_succ] at f0 f1 f2 f3
  refine bodyPost_ret (v := .agg #[.int .i64 1, .int .i64 0, .string x, .slice none 0 0]) (by simp [results, Tryd.results51, go_sem, f0, f1, f2, f3]) rfl ⟨O4, 1, 0, x, _, rfl, ⟨_, _, _, rfl⟩, ?_⟩
  have M := HM.out
  cases hk : lineS' s.data.toList t (p + 1) with
  | error c =>
    rw [hk] at M
    obtain ⟨hc, _, _, _, hb⟩ := M
    exact ⟨hc, _, _, _, B4 _ _ hb⟩
  | ok y =>
    rw [hk] at M
    obtain ⟨rfl, hb⟩ := M
    exact ⟨rfl, rfl, rfl, nil_list _ _ _, B4 _ _ hb⟩
set_option maxRecDepth 100000 in
set_option maxHeartbeats 4000000 in
theorem rreply_error (deep : Int) (w : World) (g : Nat) (s : ByteArray) (p t i : Nat) (D : Nat) (h : RBlk w g s p 0 t i) (hp : p < s.size) (hc : (s.data.toList[p]'hp).toNat = 45) (hs : s.size ≤ 9223372036854775000) (ht : t ≤ 1048576) :
    Calls Tryd.prog 51 #[.pointer (some ⟨g, 0, none⟩), .int .i64 deep] w (RRepE w g s D ((lineS' s.data.toList t (p + 1)).map fun x => (.mk 2 0 x.1 [], ⟨x.2.1, x.2.2, i⟩))) := by
  have HN := Lib.hid (next_ok _ g s p t i (h.ext ((Ext.refl w).alloc (.cells #[.int .i64 0, .int .i64 0, .string ⟨#[]⟩, .slice none 0 0] 41))) hp (by omega))
  rw [hc] at HN
  have HPZ := Lib.hid (show p + 1 ≤ s.size by omega)
  have HG := Lib.hid h.lt
  clear hc h hp
  go_enter Tryd.func51, Tryd.ntmps51
  go_wp2_with fail
  refine HN.out.mono ?_
  rintro e w1 ⟨rfl, b1, o1⟩
  have c2 := b1.cell 2
  simp only [List.getElem?_toArray, List.getElem?_cons_zero, List.getElem?_cons_succ] at c2
  have HP := Lib.hid (rplain_any w1 g s (p + 1) t i b1 HPZ.out hs ht)
  have HBR1 : Hid (Blk w1 w.heap.size 41 #[.int .i64 0, .int .i64 0, .string ⟨#[]⟩, .slice none 0 0]) := Lib.hid ((Blk.new w _ _).only o1 (by have := HG.out; omega))
  have HO1 := Lib.hid (((Only.refl g w).alloc (.cells #[.int .i64 0, .int .i64 0, .string ⟨#[]⟩, .slice none 0 0] 41)).trans o1)
  clear b1 o1 HN
  go_wp2_with fail
  refine HP.out.mono ?_
  rintro e w2 ⟨o2, x, rfl, hm⟩
  have HM := Lib.hid hm
  have BR := HBR1.out.only o2 (by have := HG.out; omega)
  have x0 := BR.cell 0
  have x1 := BR.cell 1
  have x2 := BR.cell 2
  have x3 := BR.cell 3
  have z0 := BR.frozen 0
  have z1 := BR.frozen 1
  have z2 := BR.frozen 2
  have z3 := BR.frozen 3
  simp only [List.getElem?_toArray, List.getElem?_cons_zero, List.getElem?_cons_succ] at x0 x1 x2 x3
  have R := rput4 (HO1.out.trans o2) (Nat.le_refl _) HG.out BR (.int .i64 2) (.int .i64 0) (.string x) (.slice none 0 0)
  have HR := Lib.hid R
  clear o2 hm BR R HP HBR1 c2
  go_wp2_with fail
  have R := HR.out
  generalize (((w2.setCell ⟨w.heap.size, 0, none⟩ (.int .i64 2)).setCell ⟨w.heap.size, 1, none⟩ (.int .i64 0)).setCell ⟨w.heap.size, 2, none⟩ (.string x)).setCell ⟨w.heap.size, 3, none⟩ (.slice none 0 0) = w4 at R ⊢
  obtain ⟨O4, B4, R4⟩ := R
  have f0 := R4.cell 0
  have f1 := R4.cell 1
  have f2 := R4.cell 2
  have f3 := R4.cell 3
  simp only [List.getElem?_toArray, List.getElem?_cons_zero, List.getElem?_cons_succ] at f0 f1 f2 f3
  refine bodyPost_ret (v := .agg #[.int .i64 2, .int .i64 0, .string x, .slice none 0 0]) (by simp [results, Tryd.results51, go_sem, f0, f1, f2, f3]) rfl ⟨O4, 2, 0, x, _, rfl, ⟨_, _, _, rfl⟩, ?_⟩
  have M := HM.out
  cases hk : lineS' s.data.toList t (p + 1) with
  | error c =>
    rw [hk] at M
    obtain ⟨hc, _, _, _, hb⟩ := M
    exact ⟨hc, _, _, _, B4 _ _ hb⟩
  | ok y =>
    rw [hk] at M
    obtain ⟨rfl, hb⟩ := M
    exact ⟨rfl, rfl, rfl, nil_list _ _ _, B4 _ _ hb⟩
set_option maxRecDepth 100000 in
set_option maxHeartbeats 4000000 in
theorem rreply_int (deep : Int) (w : World) (g : Nat) (s : ByteArray) (p t i : Nat) (D : Nat) (h : RBlk w g s p 0 t i) (hp : p < s.size) (hc : (s.data.toList[p]'hp).toNat = 58) (hs : s.size ≤ 9223372036854775000) (ht : t ≤ 1048576) :
    Calls Tryd.prog 51 #[.pointer (some ⟨g, 0, none⟩), .int .i64 deep] w (RRepE w g s D ((signS s.data.toList (p + 1)).map fun x => (.mk 3 x.1 ⟨#[]⟩ [], ⟨x.2, t, i⟩))) := by
  have HN := Lib.hid (next_ok _ g s p t i (h.ext ((Ext.refl w).alloc (.cells #[.int .i64 0, .int .i64 0, .string ⟨#[]⟩, .slice none 0 0] 41))) hp (by omega))
  rw [hc] at HN
  have HPZ := Lib.hid (show p + 1 ≤ s.size by omega)
  have HG := Lib.hid h.lt
  clear hc h hp
  go_enter Tryd.func51, Tryd.ntmps51
  go_wp2_with fail
  refine HN.out.mono ?_
  rintro e w1 ⟨rfl, b1, o1⟩
  have c2 := b1.cell 2
  simp only [List.getElem?_toArray, List.getElem?_cons_zero, List.getElem?_cons_succ] at c2
  have HP := Lib.hid (rnumber_any w1 g s (p + 1) t i b1 HPZ.out hs)
  have HBR1 : Hid (Blk w1 w.heap.size 41 #[.int .i64 0, .int .i64 0, .string ⟨#[]⟩, .slice none 0 0]) := Lib.hid ((Blk.new w _ _).only o1 (by have := HG.out; omega))
  have HO1 := Lib.hid (((Only.refl g w).alloc (.cells #[.int .i64 0, .int .i64 0, .string ⟨#[]⟩, .slice none 0 0] 41)).trans o1)
  clear b1 o1 HN
  go_wp2_with fail
  refine HP.out.mono ?_
  rintro e w2 ⟨o2, x, rfl, hm⟩
  have HM := Lib.hid hm
  have BR := HBR1.out.only o2 (by have := HG.out; omega)
  have x0 := BR.cell 0
  have x1 := BR.cell 1
  have x2 := BR.cell 2
  have x3 := BR.cell 3
  have z0 := BR.frozen 0
  have z1 := BR.frozen 1
  have z2 := BR.frozen 2
  have z3 := BR.frozen 3
  simp only [List.getElem?_toArray, List.getElem?_cons_zero, List.getElem?_cons_succ] at x0 x1 x2 x3
  have R := rput4 (HO1.out.trans o2) (Nat.le_refl _) HG.out BR (.int .i64 3) (.int .i64 x) (.string ⟨#[]⟩) (.slice none 0 0)
  have HR := Lib.hid R
  clear o2 hm BR R HP HBR1 c2
  go_wp2_with fail
  have R := HR.out
  generalize (((w2.setCell ⟨w.heap.size, 0, none⟩ (.int .i64 3)).setCell ⟨w.heap.size, 1, none⟩ (.int .i64 x)).setCell ⟨w.heap.size, 2, none⟩ (.string ⟨#[]⟩)).setCell ⟨w.heap.size, 3, none⟩ (.slice none 0 0) = w4 at R ⊢
  obtain ⟨O4, B4, R4⟩ := R
  have f0 := R4.cell 0
  have f1 := R4.cell 1
  have f2 := R4.cell 2
  have f3 := R4.cell 3
  simp only [List.getElem?_toArray, List.getElem?_cons_zero, List.getElem?_cons_succ] at f0 f1 f2 f3
  refine bodyPost_ret (v := .agg #[.int .i64 3, .int .i64 x, .string ⟨#[]⟩, .slice none 0 0]) (by simp [results, Tryd.results51, go_sem, f0, f1, f2, f3]) rfl ⟨O4, 3, x, ⟨#[]⟩, _, rfl, ⟨_, _, _, rfl⟩, ?_⟩
  have M := HM.out
  cases hk : signS s.data.toList (p + 1) with
  | error c =>
    rw [hk] at M
    obtain ⟨hc, _, _, _, hb⟩ := M
    exact ⟨hc, _, _, _, B4 _ _ hb⟩
  | ok y =>
    rw [hk] at M
    obtain ⟨rfl, hb⟩ := M
    exact ⟨rfl, rfl, rfl, nil_list _ _ _, B4 _ _ hb⟩
set_option maxRecDepth 100000 in
set_option maxHeartbeats 4000000 in
theorem rreply_no (deep : Int) (w : World) (g : Nat) (s : ByteArray) (p : Nat) (t i : Int) (D : Nat) (h : RBlk w g s p 0 t i) (hp : p < s.size) (h1 : (s.data.toList[p]'hp).toNat ≠ 43) (h2 : (s.data.toList[p]'hp).toNat ≠ 45) (h3 : (s.data.toList[p]'hp).toNat ≠ 58) (h4 : (s.data.toList[p]'hp).toNat ≠ 36) (h5 : (s.data.toList[p]'hp).toNat ≠ 42) (hs : s.size ≤ 9223372036854775000) :
    Calls Tryd.prog 51 #[.pointer (some ⟨g, 0, none⟩), .int .i64 deep] w (RRepE w g s D (.error 131)) := by
  have HN := Lib.hid (next_ok _ g s p t i (h.ext ((Ext.refl w).alloc (.cells #[.int .i64 0, .int .i64 0, .string ⟨#[]⟩, .slice none 0 0] 41))) hp (by omega))
  have HG := Lib.hid h.lt
  clear h
  generalize (s.data.toList[p]'hp).toNat = c at h1 h2 h3 h4 h5 HN
  have g1 : ((c : Int) == 43) = false := beq_eq_false_iff_ne.2 (by omega)
  have g2 : ((c : Int) == 45) = false := beq_eq_false_iff_ne.2 (by omega)
  have g3 : ((c : Int) == 58) = false := beq_eq_false_iff_ne.2 (by omega)
  have g4 : ((c : Int) == 36) = false := beq_eq_false_iff_ne.2 (by omega)
  have g5 : ((c : Int) == 42) = false := beq_eq_false_iff_ne.2 (by omega)
  clear hp h1 h2 h3 h4 h5
  go_enter Tryd.func51, Tryd.ntmps51
  go_wp2_with fail
  refine HN.out.mono ?_
  rintro e w1 ⟨rfl, b1, o1⟩
  have c2 := b1.cell 2
  simp only [List.getElem?_toArray, List.getElem?_cons_zero, List.getElem?_cons_succ] at c2
  have HF := Lib.hid (fail_ok 131 w1 g s _ t i b1)
  have HBR1 : Hid (Blk w1 w.heap.size 41 #[.int .i64 0, .int .i64 0, .string ⟨#[]⟩, .slice none 0 0]) := Lib.hid ((Blk.new w _ _).only o1 (by have := HG.out; omega))
  have HO1 := Lib.hid (((Only.refl g w).alloc (.cells #[.int .i64 0, .int .i64 0, .string ⟨#[]⟩, .slice none 0 0] 41)).trans o1)
  clear b1 o1 HN
  go_wp2_with fail
  refine HF.out.mono ?_
  rintro e w2 ⟨rfl, b2, o2⟩
  have HM := Lib.hid b2
  have BR := HBR1.out.only o2 (by have := HG.out; omega)
  have x0 := BR.cell 0
  have x1 := BR.cell 1
  have x2 := BR.cell 2
  have x3 := BR.cell 3
  have z0 := BR.frozen 0
  have z1 := BR.frozen 1
  have z2 := BR.frozen 2
  have z3 := BR.frozen 3
  simp only [List.getElem?_toArray, List.getElem?_cons_zero, List.getElem?_cons_succ] at x0 x1 x2 x3
  have R := rput4 (HO1.out.trans o2) (Nat.le_refl _) HG.out BR (.int .i64 0) (.int .i64 0) (.string ⟨#[]⟩) (.slice none 0 0)
  have HR := Lib.hid R
  clear o2 b2 BR R HF HBR1 c2
  go_wp2_with fail
  have R := HR.out
  generalize (((w2.setCell ⟨w.heap.size, 0, none⟩ (.int .i64 0)).setCell ⟨w.heap.size, 1, none⟩ (.int .i64 0)).setCell ⟨w.heap.size, 2, none⟩ (.string ⟨#[]⟩)).setCell ⟨w.heap.size, 3, none⟩ (.slice none 0 0) = w4 at R ⊢
  obtain ⟨O4, B4, R4⟩ := R
  have f0 := R4.cell 0
  have f1 := R4.cell 1
  have f2 := R4.cell 2
  have f3 := R4.cell 3
  simp only [List.getElem?_toArray, List.getElem?_cons_zero, List.getElem?_cons_succ] at f0 f1 f2 f3
  exact bodyPost_ret (v := .agg #[.int .i64 0, .int .i64 0, .string ⟨#[]⟩, .slice none 0 0]) (by simp [results, Tryd.results51, go_sem, f0, f1, f2, f3]) rfl ⟨O4, 0, 0, ⟨#[]⟩, _, rfl, ⟨_, _, _, rfl⟩, ⟨by decide, _, _, _, B4 _ _ HM.out⟩⟩
end Go.Proofs.YtopdgmchkoaeeaaDoor
