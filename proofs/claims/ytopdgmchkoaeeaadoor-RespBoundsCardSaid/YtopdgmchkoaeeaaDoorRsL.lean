/- A reply behind '$': none, or a text. -/
import Derived.Test.YtopdgmchkoaeeaaDoorRsK
import Derived.Deep.QuietTactic
namespace Go.Proofs.YtopdgmchkoaeeaaDoor
open Go.RowKit
set_option linter.unusedVariables false
set_option linter.unusedSimpArgs false

theorem isDash_no {l : List UInt8} {p : Nat} (h : p < l.length) (hc : ¬ l[p].toNat = 45) : ¬ (p < l.length ∧ l[p]!.toNat = 45) := fun h' => hc (by have := h'.2; rwa [getElem!_pos l p h] at this)
set_option maxRecDepth 100000 in
set_option maxHeartbeats 4000000 in
theorem kind4_any (w : World) (g B : Nat) (q : Option Addr) (cap : Nat) (l : List UInt8) (d p t i : Nat) (h : InAt w g q cap l p t i) (hp : p ≤ l.length) (ht : t ≤ 1048576)
    (hb : Blk w B 83 #[.pointer (some ⟨g, 0, none⟩)]) :
    Calls Tryd.prog 82 #[.pointer (some ⟨B, 0, none⟩)] w (RepE w g q cap l d (dollarS l ⟨p, t, i⟩)) := by
  obtain ⟨r, hr⟩ : ∃ r, dollarS l ⟨p, t, i⟩ = r := ⟨_, rfl⟩
  rw [hr]
  unfold dollarS at hr
  have H := Lib.hid h
  have c0 := hb.cell 0
  have d0 := h.blk.cell 0
  have d1 := h.blk.cell 1
  simp only [List.getElem?_toArray, List.getElem?_cons_zero, List.getElem?_cons_succ] at c0 d0 d1
  have hlt := hb.lt
  have hg := h.lt
  have hl := h.len
  have hne : ¬ B = w.heap.size := by omega
  have hne2 : ¬ g = w.heap.size := by omega
  have cS := fun W (hE : Ext w W) => skip_any ⟨#[45, 49, 13, 10]⟩ W g q cap l p t i (h.ext hE) (by decide)
  have cB := fun W (hE : Ext w W) => bulk_any W g q cap l p t i (h.ext hE) hp ht
  have HB0 : Hid (Blk (w.alloc (.cells #[.int .i64 0, .int .i64 0, .string ⟨#[]⟩, .slice none 0 0] 41)) w.heap.size 41 #[.int .i64 0, .int .i64 0, .string ⟨#[]⟩, .slice none 0 0]) := Lib.hid (Blk.new w _ _)
  have E0 : Hid (Ext w (w.alloc (.cells #[.int .i64 0, .int .i64 0, .string ⟨#[]⟩, .slice none 0 0] 41))) := Lib.hid ((Ext.refl w).alloc _)
  have hne' := Lib.hid hne
  clear hb hne
  by_cases hpl : p < l.length
  · obtain ⟨b, o, rfl, hbg, cb⟩ := h.bytes p hpl
    have hbb : ¬ b = w.heap.size := by have := cell_lt cb; simp only at this; omega
    have hdd : decide ((p : Int) < (l.length : Int)) = true := by simp; exact hpl
    have k0 : (0 : Int) ≤ (p : Int) := by omega
    have k1 : (p : Int) < (l.length : Int) := by omega
    by_cases h45 : l[p].toNat = 45
    · rw [dif_pos ⟨hpl, by rw [getElem!_pos l p hpl]; exact h45⟩] at hr
      rw [h45] at cb
      have HR := Lib.hid hr
      clear hr h h45
      have hne := hne'.out
      go_enter Tryd.func82, Tryd.ntmps82
      go_wp2_with fail
      generalize w.alloc (.cells #[.int .i64 0, .int .i64 0, .string ⟨#[]⟩, .slice none 0 0] 41) = w0 at HB0 E0 ⊢
      replace c0 := E0.out.cell c0
      replace d0 := E0.out.cell d0
      replace d1 := E0.out.cell d1
      replace cb := E0.out.cell cb
      go_quiet (fail)
      have E1 := Lib.hid (E0.out.drewN nq)
      replace HB0 := Lib.hid (HB0.out.drewN nq)
      replace c0 := (Ext.refl w0).drewN nq |>.cell c0
      generalize w0.drewN nq = w1 at E1 HB0 c0 ⊢
      clear d0 d1 cb E0 hne hne2 hbb
      go_wp2_with fail
      refine (cS _ E1.out).mono ?_
      intro e w2 hs
      obtain ⟨sr, hsr⟩ : ∃ sr, skipS l [45, 49, 13, 10] p = sr := ⟨_, rfl⟩
      have hs' : SkipE w1 g _ cap l t i (skipS l [45, 49, 13, 10] p) e w2 := hs
      have S := HR.out
      rw [hsr] at hs' S
      clear hs HR hsr cS cB
      cases sr with
      | error x =>
        obtain ⟨rfl, o2⟩ := hs'
        go_wp2_with fail
        exact ⟨rfl, RepE.err S.symm ⟨rfl, (Only.of_ext E1.out).trans o2⟩⟩
      | ok x =>
        obtain ⟨rfl, i2, o2⟩ := hs'
        have B1 := HB0.out.only o2 (by have := hne'.out; omega)
        have b0 := B1.cell 0
        have b1 := B1.cell 1
        have b2 := B1.cell 2
        have b3 := B1.cell 3
        have z0 := B1.frozen 0
        have z1 := B1.frozen 1
        have z2 := B1.frozen 2
        have z3 := B1.frozen 3
        simp only [List.getElem?_toArray, List.getElem?_cons_zero, List.getElem?_cons_succ] at b0 b1 b2 b3
        have HI := Lib.hid i2
        have HO := Lib.hid ((Only.of_ext E1.out).trans o2)
        have HB := Lib.hid B1
        have HS := Lib.hid S
        clear i2 o2 B1 S c0
        go_wp2_with fail
        have R := rep_put H.out HI.out HO.out (Nat.le_refl _) HB.out (.int .i64 0) (.int .i64 0) (.string ⟨#[]⟩) (.slice none 0 0)
        generalize (((w2.setCell { block := w.heap.size, off := 0 } (Value.int IntKind.i64 0)).setCell { block := w.heap.size, off := 1 } (Value.int IntKind.i64 0)).setCell { block := w.heap.size, off := 2 } (Value.string ⟨#[]⟩)).setCell { block := w.heap.size, off := 3 } (Value.slice none 0 0) = w4 at R ⊢
        obtain ⟨I4, O4, B4⟩ := R
        have e0 := B4.cell 0
        have e1 := B4.cell 1
        have e2 := B4.cell 2
        have e3 := B4.cell 3
        simp only [List.getElem?_toArray, List.getElem?_cons_zero, List.getElem?_cons_succ] at e0 e1 e2 e3
        exact bodyPost_ret (v := .agg #[.int .i64 0, .int .i64 0, .string ⟨#[]⟩, .slice none 0 0]) (by simp [results, Tryd.results82, go_sem, e0, e1, e2, e3]) rfl (RepE.ok HS.out.symm ⟨_, rfl, ⟨_, rfl, nil_list _ _ _⟩, I4, O4⟩)
    · rw [dif_neg (isDash_no hpl h45)] at hr
      have e45 : ((l[p].toNat : Int) == 45) = false := by simp; omega
      have HR := Lib.hid hr
      clear hr h h45
      have hne := hne'.out
      go_enter Tryd.func82, Tryd.ntmps82
      go_wp2_with fail
      generalize w.alloc (.cells #[.int .i64 0, .int .i64 0, .string ⟨#[]⟩, .slice none 0 0] 41) = w0 at HB0 E0 ⊢
      replace c0 := E0.out.cell c0
      replace d0 := E0.out.cell d0
      replace d1 := E0.out.cell d1
      replace cb := E0.out.cell cb
      go_quiet (fail)
      have E1 := Lib.hid (E0.out.drewN nq)
      replace HB0 := Lib.hid (HB0.out.drewN nq)
      replace c0 := (Ext.refl w0).drewN nq |>.cell c0
      generalize w0.drewN nq = w1 at E1 HB0 c0 ⊢
      clear d0 d1 cb E0 hne hne2 hbb
      go_wp2_with fail
      refine (cB _ E1.out).mono ?_
      intro e w2 hs
      obtain ⟨sr, hsr⟩ : ∃ sr, bulkS l t p = sr := ⟨_, rfl⟩
      have S := HR.out
      rw [hsr] at hs S
      have HBK := Lib.hid hsr
      clear HR hsr cS cB
      cases sr with
      | error x =>
        obtain ⟨rfl, o2⟩ := hs
        go_wp2_with fail
        exact ⟨rfl, RepE.err S.symm ⟨rfl, (Only.of_ext E1.out).trans o2⟩⟩
      | ok x =>
        have hx := bulk_pos hp HBK.out
        obtain ⟨rfl, i2, o2⟩ := hs
        have B1 := HB0.out.only o2 (by have := hne'.out; omega)
        have b0 := B1.cell 0
        have b1 := B1.cell 1
        have b2 := B1.cell 2
        have b3 := B1.cell 3
        have z0 := B1.frozen 0
        have z1 := B1.frozen 1
        have z2 := B1.frozen 2
        have z3 := B1.frozen 3
        simp only [List.getElem?_toArray, List.getElem?_cons_zero, List.getElem?_cons_succ] at b0 b1 b2 b3
        have HI := Lib.hid i2
        have HO := Lib.hid ((Only.of_ext E1.out).trans o2)
        have HB := Lib.hid B1
        have HS := Lib.hid S
        have HT := Lib.hid (show ((t - x.1.size : Nat) : Int) = (t : Int) - (x.1.size : Int) by omega)
        clear i2 o2 B1 S c0 hx HBK
        go_wp2_with fail
        have R := rep_put H.out HI.out HO.out (Nat.le_refl _) HB.out (.int .i64 4) (.int .i64 0) (.string x.1) (.slice none 0 0)
        generalize (((w2.setCell { block := w.heap.size, off := 0 } (Value.int IntKind.i64 4)).setCell { block := w.heap.size, off := 1 } (Value.int IntKind.i64 0)).setCell { block := w.heap.size, off := 2 } (Value.string x.1)).setCell { block := w.heap.size, off := 3 } (Value.slice none 0 0) = w4 at R ⊢
        obtain ⟨I4, O4, B4⟩ := R
        have e0 := B4.cell 0
        have e1 := B4.cell 1
        have e2 := B4.cell 2
        have e3 := B4.cell 3
        simp only [List.getElem?_toArray, List.getElem?_cons_zero, List.getElem?_cons_succ] at e0 e1 e2 e3
        exact bodyPost_ret (v := .agg #[.int .i64 4, .int .i64 0, .string x.1, .slice none 0 0]) (by simp [results, Tryd.results82, go_sem, e0, e1, e2, e3]) rfl (RepE.ok HS.out.symm ⟨_, rfl, ⟨_, rfl, nil_list _ _ _⟩, by rw [HT.out]; exact I4, O4⟩)
  · have hdd : decide ((p : Int) < (l.length : Int)) = false := by simp; omega
    rw [dif_neg (fun h' => hpl h'.1)] at hr
    have HR := Lib.hid hr
    clear hr h
    have hne := hne'.out
    go_enter Tryd.func82, Tryd.ntmps82
    go_wp2_with fail
    generalize w.alloc (.cells #[.int .i64 0, .int .i64 0, .string ⟨#[]⟩, .slice none 0 0] 41) = w0 at HB0 E0 ⊢
    replace c0 := E0.out.cell c0
    replace d0 := E0.out.cell d0
    replace d1 := E0.out.cell d1
    go_quiet (fail)
    have E1 := Lib.hid (E0.out.drewN nq)
    replace HB0 := Lib.hid (HB0.out.drewN nq)
    replace c0 := (Ext.refl w0).drewN nq |>.cell c0
    generalize w0.drewN nq = w1 at E1 HB0 c0 ⊢
    clear d0 d1 E0 hne hne2
    go_wp2_with fail
    refine (cB _ E1.out).mono ?_
    intro e w2 hs
    obtain ⟨sr, hsr⟩ : ∃ sr, bulkS l t p = sr := ⟨_, rfl⟩
    have S := HR.out
    rw [hsr] at hs S
    have HBK := Lib.hid hsr
    clear HR hsr cS cB
    cases sr with
    | error x =>
      obtain ⟨rfl, o2⟩ := hs
      go_wp2_with fail
      exact ⟨rfl, RepE.err S.symm ⟨rfl, (Only.of_ext E1.out).trans o2⟩⟩
    | ok x =>
      have hx := bulk_pos hp HBK.out
      obtain ⟨rfl, i2, o2⟩ := hs
      have B1 := HB0.out.only o2 (by have := hne'.out; omega)
      have b0 := B1.cell 0
      have b1 := B1.cell 1
      have b2 := B1.cell 2
      have b3 := B1.cell 3
      have z0 := B1.frozen 0
      have z1 := B1.frozen 1
      have z2 := B1.frozen 2
      have z3 := B1.frozen 3
      simp only [List.getElem?_toArray, List.getElem?_cons_zero, List.getElem?_cons_succ] at b0 b1 b2 b3
      have HI := Lib.hid i2
      have HO := Lib.hid ((Only.of_ext E1.out).trans o2)
      have HB := Lib.hid B1
      have HS := Lib.hid S
      have HT := Lib.hid (show ((t - x.1.size : Nat) : Int) = (t : Int) - (x.1.size : Int) by omega)
      clear i2 o2 B1 S c0 hx HBK
      go_wp2_with fail
      have R := rep_put H.out HI.out HO.out (Nat.le_refl _) HB.out (.int .i64 4) (.int .i64 0) (.string x.1) (.slice none 0 0)
      generalize (((w2.setCell { block := w.heap.size, off := 0 } (Value.int IntKind.i64 4)).setCell { block := w.heap.size, off := 1 } (Value.int IntKind.i64 0)).setCell { block := w.heap.size, off := 2 } (Value.string x.1)).setCell { block := w.heap.size, off := 3 } (Value.slice none 0 0) = w4 at R ⊢
      obtain ⟨I4, O4, B4⟩ := R
      have e0 := B4.cell 0
      have e1 := B4.cell 1
      have e2 := B4.cell 2
      have e3 := B4.cell 3
      simp only [List.getElem?_toArray, List.getElem?_cons_zero, List.getElem?_cons_succ] at e0 e1 e2 e3
      exact bodyPost_ret (v := .agg #[.int .i64 4, .int .i64 0, .string x.1, .slice none 0 0]) (by simp [results, Tryd.results82, go_sem, e0, e1, e2, e3]) rfl (RepE.ok HS.out.symm ⟨_, rfl, ⟨_, rfl, nil_list _ _ _⟩, by rw [HT.out]; exact I4, O4⟩)
end Go.Proofs.YtopdgmchkoaeeaaDoor
