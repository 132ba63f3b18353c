/- A table with a text under a key. How many tables the value of a reply makes; its number; lists of replies that are kept. The value of a list. -/
import Derived.Test.YtlfihdcgbhdajaaGreatDoorYB5
import Derived.Deep.RegionHeld3
namespace Go.Proofs.YtlfihdcgbhdajaaGreatDoor
open Go.RowKit
set_option linter.unusedVariables false
set_option linter.unusedSimpArgs false

theorem tabH_cells (H : Hp) : (tabH H).cells = H.cells := by unfold tabH; split <;> rfl
set_option maxRecDepth 100000 in
set_option maxHeartbeats 2000000 in
theorem under_do (g : Nat) (tv : Value) (rs : List (Nat × Nat)) (H : Hp) (w : World) (h : HeapIn w g tv rs H) (hlen : H.tabs.length ≤ 1000000000) (hb sb ob : Nat) (key : ByteArray) (HX : Blk w hb 28 #[.pointer (some ⟨g, 0, none⟩)])
  (HSB : Blk w sb 65 #[.func (.func 26) #[] #[.pointer (some ⟨hb, 0, none⟩)]]) (HO : Blk w ob 9 #[.string key]) (nh : ¬ Foot g tv rs hb) (ns : ¬ Foot g tv rs sb) (no : ¬ Foot g tv rs ob) (k n : Int) (s : ByteArray) (hz : s.size ≤ 9223372036854775807) (q : Option Addr) (m c : Nat) :
  Calls Tryz.prog 29 #[.agg #[.int .i64 k, .int .i64 n, .string s, .slice q m c], .pointer (some ⟨hb, 0, none⟩), .pointer (some ⟨sb, 0, none⟩), .pointer (some ⟨ob, 0, none⟩)] w (VayE w g tv rs (underP H key s)) := by
 have HE := Lib.hid (((Ext.refl w).alloc (.cells #[.int .i64 k, .int .i64 n, .string s, .slice q m c] 25)).alloc (.cells #[.int .i64 0, .int .i64 0, .string ⟨#[]⟩] 34))
 have HB : Hid (Blk ((w.alloc (.cells #[.int .i64 k, .int .i64 n, .string s, .slice q m c] 25)).alloc (.cells #[.int .i64 0, .int .i64 0, .string ⟨#[]⟩] 34)) (w.heap.size + 1) 34 #[.int .i64 0, .int .i64 0, .string ⟨#[]⟩]) := Lib.hid (by
  have := Blk.new (w.alloc (.cells #[.int .i64 k, .int .i64 n, .string s, .slice q m c] 25)) 34 #[.int .i64 0, .int .i64 0, .string ⟨#[]⟩]
  rwa [size_alloc] at this)
 have HA : Hid (Blk ((w.alloc (.cells #[.int .i64 k, .int .i64 n, .string s, .slice q m c] 25)).alloc (.cells #[.int .i64 0, .int .i64 0, .string ⟨#[]⟩] 34)) w.heap.size 25 #[.int .i64 k, .int .i64 n, .string s, .slice q m c]) := Lib.hid ((Blk.new w _ _).alloc _)
 have HI := Lib.hid (h.ext HE.out)
 have XH := Lib.hid (HX.ext HE.out)
 have XS := Lib.hid (HSB.ext HE.out)
 have XO := Lib.hid (HO.ext HE.out)
 have NB : Hid (¬ Foot g tv rs (w.heap.size + 1)) := Lib.hid (fun hx => by have := h.low hx; omega)
 have NA : Hid (¬ Foot g tv rs w.heap.size) := Lib.hid (fun hx => by have := h.low hx; omega)
 have NH := Lib.hid nh
 have NS := Lib.hid ns
 have NO := Lib.hid no
 obtain ⟨r, hr⟩ : ∃ r, underP H key s = r := ⟨_, rfl⟩
 rw [hr]
 have HR := Lib.hid hr
 have c0 := XH.out.cell 0
 simp only [List.getElem?_toArray, List.getElem?_cons_zero, List.getElem?_cons_succ] at c0
 obtain ⟨tw, htw⟩ : ∃ tw, tabW H = tw := ⟨_, rfl⟩
 have hc := fun (W : World) (hW : HeapIn W g tv rs H) => table_step g tv rs H W hW (by omega)
 rw [htw] at hc
 have HC0 := Lib.hid hc
 have HTW := Lib.hid htw
 have HL : Hid ((tabH H).tabs.length ≤ 9223372036854775807) := Lib.hid (by
  unfold tabH
  split
  ·simp; omega
  ·omega)
 clear h hc htw hr HX HSB HO nh ns no
 go_enter Tryz.func29, Tryz.ntmps29
 go_wp2_with fail
 refine (HC0.out _ HI.out).mono ?_
 rintro e w1 ⟨rfl, tv1, rs1, s1⟩
 rcases Decidable.em (tw = sNone) with hs | hs
 rotate_left
 ·have S1 := Lib.hid (HS.pre HE.out s1)
  clear s1
  go_wp2_with fail
  refine (got_no (tabV H) tw hs _).mono ?_
  rintro e w2 ⟨he, e2⟩
  unfold Fails at he
  subst he
  go_wp2_with fail
  refine ⟨rfl, ?_⟩
  have hr2 : r = (tw, Vl.zero, tabH H) := by
   rw [← HR.out]
   unfold underP
   rw [HTW.out, if_neg hs]
  rw [hr2]
  exact VayE.mk0 hs rfl (S1.out.ext e2)
 subst hs
 obtain ⟨t, ht⟩ : ∃ t, tabV H = t := ⟨_, rfl⟩
 have HT := Lib.hid ht
 rw [ht]
 clear ht
 obtain ⟨tk, tn, ts⟩ := t
 obtain ⟨b6, h6⟩ : ∃ b6, b6 = 0 := ⟨_, rfl⟩
 have S1 := Lib.hid s1
 clear s1 c0
 go_wp2_with fail
 refine (got_yes ⟨tk, tn, ts⟩ _).mono ?_
 rintro e w2 ⟨rfl, e2⟩
 clear b6 h6
 have e6 := e2.trans ((Ext.refl w2).alloc (.cells #[.int .i64 tk, .int .i64 tn, .string ts] 34))
 have S2 := Lib.hid (S1.out.ext e6)
 have T6 := Lib.hid (Blk.new w2 34 #[.int .i64 tk, .int .i64 tn, .string ts])
 have N6 : Hid (¬ Foot g tv1 rs1 w2.heap.size) := Lib.hid (fun hx => by
  have := (S1.out.ext e2).heap.low hx; omega)
 clear e2 e6
 go_wp2_with fail
 generalize w2.alloc (.cells #[.int .i64 tk, .int .i64 tn, .string ts] 34) = W at *
 obtain ⟨b6, hb6⟩ : ∃ b6, w2.heap.size = b6 := ⟨_, rfl⟩
 rw [hb6] at T6 N6 ⊢
 clear hb6
 have YH := Lib.hid (XH.out.step S2.out NH.out)
 have YS := Lib.hid (XS.out.step S2.out NS.out)
 have YO := Lib.hid (XO.out.step S2.out NO.out)
 have YA := Lib.hid (HA.out.step S2.out NA.out)
 have YB := Lib.hid (HB.out.step S2.out NB.out)
 have MH := Lib.hid (S2.out.notin XH.out.lt NH.out)
 have MS := Lib.hid (S2.out.notin XS.out.lt NS.out)
 have MO := Lib.hid (S2.out.notin XO.out.lt NO.out)
 have MA := Lib.hid (S2.out.notin HA.out.lt NA.out)
 have MB := Lib.hid (S2.out.notin HB.out.lt NB.out)
 have KS : Hid (∀ wc tv' rs' Hx, HS W g tv1 rs1 wc tv' rs' Hx → (fun w' => w'.cell? ⟨hb, 0, none⟩ = some (.pointer (some ⟨g, 0, none⟩)) ∧ w'.cell? ⟨sb, 0, none⟩ = some (.func (.func 26) #[] #[.pointer (some ⟨hb, 0, none⟩)]) ∧ w'.cell? ⟨ob, 0, none⟩ = some (.string key) ∧ w'.cell? ⟨b6, 0, none⟩ = some (.int .i64 tk) ∧ w'.cell? ⟨b6, 1, none⟩ = some (.int .i64 tn) ∧ w'.cell? ⟨b6, 2, none⟩ = some (.string ts) ∧ w'.cell? ⟨w.heap.size, 2, none⟩ = some (.string s)) wc) := Lib.hid (fun wc tv' rs' Hx hs =>
  ⟨(YH.out.step hs MH.out).cell 0, (YS.out.step hs MS.out).cell 0, (YO.out.step hs MO.out).cell 0, (T6.out.step hs N6.out).cell 0, (T6.out.step hs N6.out).cell 1, (T6.out.step hs N6.out).cell 2, (YA.out.step hs MA.out).cell 2⟩)
 have RES : Hid (∀ wc tv' rs' Hx, HS W g tv1 rs1 wc tv' rs' Hx → Blk wc (w.heap.size + 1) 34 #[.int .i64 0, .int .i64 0, .string ⟨#[]⟩]) := Lib.hid (fun wc tv' rs' Hx hs => YB.out.step hs MB.out)
 have TBL : Hid (∀ wc tv' rs' Hx, HS W g tv1 rs1 wc tv' rs' Hx → Blk wc b6 34 #[.int .i64 tk, .int .i64 tn, .string ts]) := Lib.hid (fun wc tv' rs' Hx hs => T6.out.step hs N6.out)
 have U0 := Lib.hid (HS.of_ext S2.out.heap (Ext.refl W).drew)
 have UALL := Lib.hid (fun wc tv' rs' Hx (hs : HS W g tv1 rs1 wc tv' rs' Hx) => HS.pre HE.out (S2.out.trans hs))
 obtain ⟨mw, hmw⟩ : ∃ mw, mkW (tabH H).cells (tabH H).spent s = mw := ⟨_, rfl⟩
 obtain ⟨mv, hmv⟩ : ∃ mv, mkV (tabH H).cells (tabH H).spent s = mv := ⟨_, rfl⟩
 have HMV : Hid (mw = sNone → mv = tK s ∧ mw = sNone) := Lib.hid (fun hh => ⟨by rw [← hmv]; exact mkV_yes (hmw.trans hh), hh⟩)
 have hc := fun (Z : World) (hZ : HeapIn Z g tv1 rs1 (tabH H)) => make_step g tv1 rs1 (tabH H) s Z hZ hz
 rw [hmw, hmv] at hc
 have HC := Lib.hid hc
 obtain ⟨sw, hsw⟩ : ∃ sw, setW (mkH (tabH H) s) ⟨tk, tn, ts⟩ (tK key) (tK s) = sw := ⟨_, rfl⟩
 have HSW := Lib.hid hsw
 have HXS : Hid (∀ wc tv' rs' Hx, HS W g tv1 rs1 wc tv' rs' Hx → Blk wc hb 28 #[.pointer (some ⟨g, 0, none⟩)]) := Lib.hid (fun wc tv' rs' Hx hs => YH.out.step hs MH.out)
 have HSET := Lib.hid (fun (Z : World) (hZ : HeapIn Z g tv1 rs1 (mkH (tabH H) s)) hx => set_do g tv1 rs1 (mkH (tabH H) s) ⟨tk, tn, ts⟩ (tK key) (tK s) Z hZ HL.out ⟨by show (-9223372036854775808 : Int) ≤ 0; decide, by show (0 : Int) ≤ 9223372036854775807; decide⟩ ⟨by show (-9223372036854775808 : Int) ≤ 0; decide, by show (0 : Int) ≤ 9223372036854775807; decide⟩ hb hx MH.out)
 have NOM : Hid (¬ mw = sNone → ∀ wc, HS W g tv1 rs1 wc tv1 rs1 (mkH (tabH H) s) → VayE w g tv rs r (.panicked [{ v := bfailV mw, recovered := false }]) wc) := Lib.hid (fun hh wc hs => by
  have hr2 : r = (mw, Vl.zero, mkH (tabH H) s) := by
   rw [← HR.out]
   unfold underP
   rw [if_pos HTW.out, ← tabH_cells H, hmw, if_neg hh]
  rw [hr2]
  exact VayE.mk0 hh rfl (UALL.out _ _ _ _ hs))
 have NOS : Hid (mw = sNone → ¬ sw = sNone → ∀ wc, HS W g tv1 rs1 wc tv1 rs1 (setH (mkH (tabH H) s) ⟨tk, tn, ts⟩ (tK key) (tK s)) → VayE w g tv rs r (.panicked [{ v := bfailV (setW (mkH (tabH H) s) ⟨tk, tn, ts⟩ (tK key) (tK s)), recovered := false }]) wc) := Lib.hid (fun hm hh wc hs => by
  have hr2 : r = (sw, Vl.zero, setH (mkH (tabH H) s) ⟨tk, tn, ts⟩ (tK key) (tK s)) := by
   rw [← HR.out]
   unfold underP
   simp only [HT.out]
   rw [if_pos HTW.out, ← tabH_cells H, if_pos (hmw.trans hm), hsw, if_neg hh]
  rw [hr2, hsw]
  exact VayE.mk0 hh rfl (UALL.out _ _ _ _ hs))
 have YES : Hid (mw = sNone → sw = sNone → ∀ wc x0 x1 x2, HS W g tv1 rs1 wc tv1 rs1 (setH (mkH (tabH H) s) ⟨tk, tn, ts⟩ (tK key) (tK s)) → VayE w g tv rs r (.returned (⟨tk, tn, ts⟩ : Vl).v) (((wc.setCell ⟨w.heap.size + 1, 0, none⟩ x0).setCell ⟨w.heap.size + 1, 1, none⟩ x1).setCell ⟨w.heap.size + 1, 2, none⟩ x2)) := Lib.hid (fun hm hh wc x0 x1 x2 hs => by
  have hr2 : r = (sNone, ⟨tk, tn, ts⟩, setH (mkH (tabH H) s) ⟨tk, tn, ts⟩ (tK key) (tK s)) := by
   rw [← HR.out]
   unfold underP
   simp only [HT.out]
   rw [if_pos HTW.out, ← tabH_cells H, if_pos (hmw.trans hm), hsw, if_pos hh]
  rw [hr2]
  exact VayE.mk1 rfl rfl ((UALL.out _ _ _ _ hs).set3 (Nat.le_succ _) (hs.notin YB.out.lt MB.out) _ _ _))
 clear hc hmw hmv hsw hz hlen
 refine wp_region_held_drew (S := fun w' => w'.cell? ⟨hb, 0, none⟩ = some (.pointer (some ⟨g, 0, none⟩)) ∧ w'.cell? ⟨sb, 0, none⟩ = some (.func (.func 26) #[] #[.pointer (some ⟨hb, 0, none⟩)]) ∧ w'.cell? ⟨ob, 0, none⟩ = some (.string key) ∧ w'.cell? ⟨b6, 0, none⟩ = some (.int .i64 tk) ∧ w'.cell? ⟨b6, 1, none⟩ = some (.int .i64 tn) ∧ w'.cell? ⟨b6, 2, none⟩ = some (.string ts) ∧ w'.cell? ⟨w.heap.size, 2, none⟩ = some (.string s)) (by kernel_rfl) (KS.out _ _ _ _ U0.out) (fun hHeld => ?_)
 have U := Lib.hid U0.out
 clear U0
 refine wpAnyH_take (i := 0) (v := ?_) rfl (by kernel_rfl) (by kernel_rfl) (by kernel_rfl) (fun _ _ _ h => h) (Or.inl ⟨by rfl, (by intro w hSw; (try dsimp only at hSw); go_simp; first | done | with_reducible rfl)⟩) (by assumption) ?_
 (try simp only [Act.put, List.setIfInBounds_toArray, List.set_cons_zero, List.set_cons_succ])
 refine wpAnyH_take (i := 1) (v := ?_) rfl (by kernel_rfl) (by kernel_rfl) (by kernel_rfl) (fun _ _ _ h => h) (Or.inl ⟨by rfl, (by intro w hSw; (try dsimp only at hSw); go_simp; first | done | with_reducible rfl)⟩) (by assumption) ?_
 (try simp only [Act.put, List.setIfInBounds_toArray, List.set_cons_zero, List.set_cons_succ])
 refine wpAnyH_take (i := 2) (v := ?_) rfl (by kernel_rfl) (by kernel_rfl) (by kernel_rfl) (fun _ _ _ h => h) (Or.inl ⟨by rfl, (by intro w hSw; (try dsimp only at hSw); go_simp; first | done | with_reducible rfl)⟩) (by assumption) ?_
 (try simp only [Act.put, List.setIfInBounds_toArray, List.set_cons_zero, List.set_cons_succ])
 refine wpAnyH_take (i := 4) (v := ?_) rfl (by kernel_rfl) (by kernel_rfl) (by kernel_rfl) (fun _ _ _ h => h) (Or.inl ⟨by rfl, (by intro w hSw; (try dsimp only at hSw); go_simp; first | done | with_reducible rfl)⟩) (by assumption) ?_
 (try simp only [Act.put, List.setIfInBounds_toArray, List.set_cons_zero, List.set_cons_succ])
 refine wpAnyH_take (i := 5) (v := ?_) rfl (by kernel_rfl) (by kernel_rfl) (by kernel_rfl) (fun _ _ _ h => h) (Or.inl ⟨by rfl, (by intro w hSw; (try dsimp only at hSw); go_simp; first | done | with_reducible rfl)⟩) (by assumption) ?_
 (try simp only [Act.put, List.setIfInBounds_toArray, List.set_cons_zero, List.set_cons_succ])
 refine wpAnyH_take (i := 6) (v := ?_) rfl (by kernel_rfl) (by kernel_rfl) (by kernel_rfl) (fun _ _ _ h => h) (Or.inl ⟨by rfl, (by intro w hSw; (try dsimp only at hSw); go_simp; first | done | with_reducible rfl)⟩) (by assumption) ?_
 (try simp only [Act.put, List.setIfInBounds_toArray, List.set_cons_zero, List.set_cons_succ])
 refine wpAnyH_ready (rs := [3]) (by kernel_rfl) (by simp) ?_
 refine AllReadyH.cons rfl (fun K hK => ?_) ?_
 ·go_simp
  refine (text_any key _).mono ?_
  rintro e w3 ⟨rfl, e3⟩
  replace U := Lib.hid (U.out.ext e3)
  clear e3
  clear hHeld
  refine hK.out _ _ (KS.out _ _ _ _ U.out) (fun hHeld => ?_)
  clear hK K
  (try simp only [Act.put, List.setIfInBounds_toArray, List.set_cons_zero, List.set_cons_succ])
  refine wpAnyH_ready (rs := [7]) (by kernel_rfl) (by simp) ?_
  refine AllReadyH.cons rfl (fun K hK => ?_) ?_
  ·go_simp
   refine (HC.out _ U.out.heap).mono ?_
   rintro e w4 ⟨rfl, s4⟩
   replace U := Lib.hid (U.out.trans s4)
   clear s4
   clear hHeld
   refine hK.out _ _ (KS.out _ _ _ _ U.out) (fun hHeld => ?_)
   clear hK K
   (try simp only [Act.put, List.setIfInBounds_toArray, List.set_cons_zero, List.set_cons_succ])
   refine wpAnyH_take (i := 8) (v := ?_) rfl (by kernel_rfl) (by kernel_rfl) (by kernel_rfl) (fun _ _ _ h => h) (Or.inl ⟨by rfl, (by intro w hSw; (try dsimp only at hSw); go_simp; first | done | with_reducible rfl)⟩) (by assumption) ?_
   (try simp only [Act.put, List.setIfInBounds_toArray, List.set_cons_zero, List.set_cons_succ])
   refine wpAnyH_take (i := 9) (v := ?_) rfl (by kernel_rfl) (by kernel_rfl) (by kernel_rfl) (fun _ _ _ h => h) (Or.inl ⟨by rfl, (by intro w hSw; (try dsimp only at hSw); go_simp; first | done | with_reducible rfl)⟩) (by assumption) ?_
   (try simp only [Act.put, List.setIfInBounds_toArray, List.set_cons_zero, List.set_cons_succ])
   refine wpAnyH_ready (rs := [10]) (by kernel_rfl) (by simp) ?_
   refine AllReadyH.cons rfl (fun K hK => ?_) ?_
   ·go_simp
    rcases Decidable.em (mw = sNone) with hs | hs
    rotate_left
    ·refine (got_no mv mw hs _).mono ?_
     rintro e w5 ⟨he, e5⟩
     unfold Fails at he
     subst he
     exact ⟨rfl, NOM.out hs _ (U.out.ext e5)⟩
    obtain ⟨rfl, rfl⟩ := HMV.out hs
    refine (got_yes (tK s) _).mono ?_
    rintro e w5 ⟨rfl, e5⟩
    replace U := Lib.hid (U.out.ext e5)
    clear e5
    clear hHeld
    refine hK.out _ _ (KS.out _ _ _ _ U.out) (fun hHeld => ?_)
    clear hK K
    (try simp only [Act.put, List.setIfInBounds_toArray, List.set_cons_zero, List.set_cons_succ])
    refine wpAnyH_ready (rs := [11]) (by kernel_rfl) (by simp) ?_
    refine AllReadyH.cons rfl (fun K hK => ?_) ?_
    ·go_simp
     rcases Decidable.em (sw = sNone) with hs2 | hs2
     rotate_left
     ·refine (HSET.out _ U.out.heap (HXS.out _ _ _ _ U.out)).mono ?_
      intro e w6 hE
      have he := hE.no (by rw [HSW.out]; exact hs2)
      unfold Fails at he
      subst he
      exact ⟨rfl, NOS.out rfl hs2 _ (U.out.trans hE.step)⟩
     refine (HSET.out _ U.out.heap (HXS.out _ _ _ _ U.out)).mono ?_
     intro e w6 hE
     obtain rfl := hE.yes (by rw [HSW.out]; exact hs2)
     replace U := Lib.hid (U.out.trans hE.step)
     clear hE
     clear hHeld
     refine hK.out _ _ (KS.out _ _ _ _ U.out) (fun hHeld => ?_)
     clear hK K
     (try simp only [Act.put, List.setIfInBounds_toArray, List.set_cons_zero, List.set_cons_succ])
     refine wpAnyH_done (by kernel_rfl) ?_ _
     obtain ⟨z0, z1, z2, y0, y1, y2⟩ := three (RES.out _ _ _ _ U.out)
     have hlt := (RES.out _ _ _ _ U.out).lt
     obtain ⟨x0, x1, x2, _, _, _⟩ := three (TBL.out _ _ _ _ U.out)
     go_wp2_with fail
     exact bodyPost_ret (v := (⟨tk, tn, ts⟩ : Vl).v) (by simp [results, Tryz.results29, go_sem, *]) rfl (YES.out trivial hs2 _ _ _ _ U.out)
    ·skip
     exact AllReadyH.nil
   ·skip
    exact AllReadyH.nil
  ·skip
   exact AllReadyH.nil
 ·skip
  exact AllReadyH.nil
end Go.Proofs.YtlfihdcgbhdajaaGreatDoor
namespace Go.Proofs.YtlfihdcgbhdajaaGreatDoor
open Go.RowKit
set_option linter.unusedVariables false
set_option linter.unusedSimpArgs false

theorem tabH_len (H : Hp) : (tabH H).tabs.length ≤ H.tabs.length + 1 := by
 unfold tabH
 split
 ·simp
 ·omega
theorem underP_len (H : Hp) (key s : ByteArray) : (underP H key s).2.2.tabs.length ≤ H.tabs.length + 1 := by
 have h1 := tabH_len H
 have h2 : (mkH (tabH H) s).tabs = (tabH H).tabs := rfl
 unfold underP
 split
 ·split
  ·simp only
   split <;> (rw [setH_len, h2]; exact h1)
  ·rw [h2]; exact h1
 ·exact h1
mutual
theorem valP_len : ∀ (x : Rep) (H : Hp), (valP H x).2.2.tabs.length ≤ H.tabs.length + 1 + itR x
 | .mk k n s l, H => by
  have h1 := underP_len H sOk s
  have h2 := underP_len H sErr s
  have h3 := tabH_len H
  have h4 := valsP_len l (tabH H) (tabV H) 0
  have h5 : (mkH H s).tabs = H.tabs := rfl
  unfold valP itR
  split
  ·simp only; omega
  split
  ·split <;> (rw [h5]; omega)
  split
  ·omega
  split
  ·omega
  split
  ·split
   ·simp only; omega
   ·simp only; omega
  ·simp only; omega
theorem valsP_len : ∀ (l : List Rep) (H : Hp) (t : Vl) (i : Nat), (valsP H t i l).2.tabs.length ≤ H.tabs.length + l.length + itL l
 | [], H, t, i => by unfold valsP; simp
 | x :: l, H, t, i => by
  have h1 := valP_len x H
  have h2 := valsP_len l (setH (valP H x).2.2 t (iK ((i : Int) + 1)) (valP H x).2.1) t (i + 1)
  rw [setH_len] at h2
  have h3 := setH_len (H := (valP H x).2.2) t (iK ((i : Int) + 1)) (valP H x).2.1
  unfold valsP itL
  simp only [List.length_cons]
  split
  ·split
   ·omega
   ·rw [h3]; omega
  ·simp only; omega
end
theorem tabV_in64 {H : Hp} (h : H.tabs.length ≤ 1000000000) : in64 (tabV H).n := by
 unfold tabV
 split
 ·exact ⟨by show (-9223372036854775808 : Int) ≤ (H.tabs.length : Int); omega, by show (H.tabs.length : Int) ≤ 9223372036854775807; omega⟩
 ·exact ⟨by show (-9223372036854775808 : Int) ≤ 0; decide, by show (0 : Int) ≤ 9223372036854775807; decide⟩
theorem in64_0 : in64 0 := ⟨by decide, by decide⟩
theorem underP_in64 {H : Hp} (h : H.tabs.length ≤ 1000000000) (key s : ByteArray) : in64 (underP H key s).2.1.n := by
 unfold underP
 split
 ·split
  ·simp only
   split
   ·exact tabV_in64 h
   ·exact in64_0
  ·exact in64_0
 ·exact in64_0
theorem valP_in64 (x : Rep) (H : Hp) (h6 : i64R x) (h : H.tabs.length ≤ 1000000000) : in64 (valP H x).2.1.n := by
 obtain ⟨k, n, s, l⟩ := x
 unfold i64R at h6
 unfold valP
 split
 ·exact h6.1
 split
 ·split <;> exact in64_0
 split
 ·exact underP_in64 h _ _
 split
 ·exact underP_in64 h _ _
 split
 ·split
  ·simp only
   split
   ·exact tabV_in64 h
   ·exact in64_0
  ·exact in64_0
 ·exact in64_0
theorem valsP_cons (H : Hp) (t : Vl) (i : Nat) (x : Rep) (l : List Rep) : valsP H t i (x :: l) =
  (if (valP H x).1 = sNone then (if setW (valP H x).2.2 t (iK ((i : Int) + 1)) (valP H x).2.1 = sNone then valsP (setH (valP H x).2.2 t (iK ((i : Int) + 1)) (valP H x).2.1) t (i + 1) l else (setW (valP H x).2.2 t (iK ((i : Int) + 1)) (valP H x).2.1, setH (valP H x).2.2 t (iK ((i : Int) + 1)) (valP H x).2.1)) else ((valP H x).1, (valP H x).2.2)) := by
 conv => lhs; unfold valsP
theorem i64L_at : ∀ {l : List Rep}, i64L l → ∀ (i : Nat) (h : i < l.length), i64R l[i]
 | x :: l, h, 0, _ => h.1
 | x :: l, h, i + 1, hi => by rw [List.getElem_cons_succ]; exact i64L_at h.2 i (by simpa using hi)
theorem fineL_at {d : Nat} : ∀ {l : List Rep}, fineL d l = true → ∀ (i : Nat) (h : i < l.length), fineR d l[i] = true
 | x :: l, h, i, hi => by
  unfold fineL at h
  rw [Bool.and_eq_true] at h
  cases i with
  | zero => exact h.1
  | succ i => rw [List.getElem_cons_succ]; exact fineL_at h.2 i (by simpa using hi)
theorem txL_at : ∀ (l : List Rep) (i : Nat) (h : i < l.length), txR l[i] ≤ txL l
 | x :: l, 0, _ => by unfold txL; simp
 | x :: l, i + 1, hi => by rw [List.getElem_cons_succ]; unfold txL; have := txL_at l i (by simpa using hi); omega
theorem itL_drop : ∀ (l : List Rep) (i : Nat) (h : i < l.length), itL (l.drop i) = itR l[i] + itL (l.drop (i + 1))
 | x :: l, 0, _ => by simp [itL]
 | x :: l, i + 1, hi => by
  have := itL_drop l i (by simpa using hi)
  rw [List.getElem_cons_succ, List.drop_succ_cons, List.drop_succ_cons]
  exact this
section
variable {w w' : World} {g : Nat} {tv tv' : Value} {rs rs' : List (Nat × Nat)} {H' : Hp}
theorem ListAt.step {D : Nat} {v : Value} {l : List Rep} (h : ListAt (fun b => b < w.heap.size ∧ ¬ Foot g tv rs b) w D v l) (hs : HS w g tv rs w' tv' rs' H') : ListAt (fun b => b < w'.heap.size ∧ ¬ Foot g tv' rs' b) w' D v l :=
 h.keep (fun b o x hb hc => (hs.touch.cells.1 b o hb.1 hb.2).trans hc) (fun b hlt hb => ⟨Nat.lt_of_lt_of_le hb.1 hs.touch.size, hs.notin hb.1 hb.2⟩)
end
def LayOk (d : Nat) : Prop := ∀ (w : World) (g : Nat) (tv : Value) (rs : List (Nat × Nat)) (H : Hp), HeapIn w g tv rs H → ∀ (hb sb lb kb M o1 o2 : Nat), Bed w g tv rs hb sb lb kb M o1 o2 → ∀ (x : Rep) (q : Option Addr) (c D : Nat),
 H.tabs.length + 1 + itR x ≤ 1000000000 → txR x ≤ 1048576 → fineR d x = true → i64R x → ListAt (fun b => b < w.heap.size ∧ ¬ Foot g tv rs b) w D (.slice q x.l.length c) x.l →
  Calls Tryz.prog 36 #[.agg #[.int .i64 x.k, .int .i64 x.n, .string x.s, .slice q x.l.length c], .pointer (some ⟨kb, 0, none⟩)] w (VayE w g tv rs (valP H x))
end Go.Proofs.YtlfihdcgbhdajaaGreatDoor
namespace Go.Proofs.YtlfihdcgbhdajaaGreatDoor
open Go.RowKit
set_option linter.unusedVariables false
set_option linter.unusedSimpArgs false

theorem ListAt.elem {ok : Nat → Prop} {w : World} {D : Nat} {q : Option Addr} {c : Nat} {l : List Rep} (h : ListAt ok w D (.slice q l.length c) l) (j : Nat) (hj : j < l.length) :
  ∃ (b o : Nat) (qy : Option Addr) (cy D' : Nat), q = some ⟨b, o, none⟩ ∧ ok b ∧ w.cell? ⟨b, o + j * 4, none⟩ = some (.int .i64 l[j].k) ∧ w.cell? ⟨b, o + j * 4 + 1, none⟩ = some (.int .i64 l[j].n) ∧ w.cell? ⟨b, o + j * 4 + 2, none⟩ = some (.string l[j].s) ∧
   w.cell? ⟨b, o + j * 4 + 3, none⟩ = some (.slice qy l[j].l.length cy) ∧ ListAt ok w D' (.slice qy l[j].l.length cy) l[j].l := by
 cases D with
 | zero =>
  obtain ⟨h1, _⟩ := h
  subst h1
  simp at hj
 | succ D =>
  obtain ⟨q', c', e, hq⟩ := h
  cases e
  obtain ⟨b, o, e1, hb, hx⟩ := hq (by omega)
  obtain ⟨h1, h2, h3, lv, h4, h5⟩ := hx j hj
  obtain ⟨qy, cy, hs⟩ := h5.slice
  subst hs
  exact ⟨b, o, qy, cy, D, e1, hb, h1, h2, h3, h4, h5⟩
set_option maxRecDepth 100000 in
set_option maxHeartbeats 2000000 in
theorem list_do (d : Nat) (IH : LayOk d) (w : World) (g : Nat) (tv : Value) (rs : List (Nat × Nat)) (H : Hp) (h : HeapIn w g tv rs H) (hb sb lb kb M o1 o2 : Nat) (B : Bed w g tv rs hb sb lb kb M o1 o2) (k n : Int) (s : ByteArray) (l : List Rep) (q : Option Addr) (c D : Nat)
  (hlen : H.tabs.length + 1 + (l.length + itL l) ≤ 1000000000) (htx : txL l ≤ 1048576) (hf : fineL d l = true) (h6 : i64L l) (hv : ListAt (fun b => b < w.heap.size ∧ ¬ Foot g tv rs b) w D (.slice q l.length c) l) :
  Calls Tryz.prog 35 #[.agg #[.int .i64 k, .int .i64 n, .string s, .slice q l.length c], .pointer (some ⟨hb, 0, none⟩), .pointer (some ⟨sb, 0, none⟩), .pointer (some ⟨lb, 0, none⟩)] w
   (VayE w g tv rs (if tabW H = sNone then ((valsP (tabH H) (tabV H) 0 l).1, if (valsP (tabH H) (tabV H) 0 l).1 = sNone then tabV H else Vl.zero, (valsP (tabH H) (tabV H) 0 l).2) else (tabW H, Vl.zero, tabH H))) := by
 have HE := Lib.hid (((Ext.refl w).alloc (.cells #[.int .i64 k, .int .i64 n, .string s, .slice q l.length c] 25)).alloc (.cells #[.int .i64 0, .int .i64 0, .string ⟨#[]⟩] 34))
 have HB : Hid (Blk ((w.alloc (.cells #[.int .i64 k, .int .i64 n, .string s, .slice q l.length c] 25)).alloc (.cells #[.int .i64 0, .int .i64 0, .string ⟨#[]⟩] 34)) (w.heap.size + 1) 34 #[.int .i64 0, .int .i64 0, .string ⟨#[]⟩]) := Lib.hid (by
  have := Blk.new (w.alloc (.cells #[.int .i64 k, .int .i64 n, .string s, .slice q l.length c] 25)) 34 #[.int .i64 0, .int .i64 0, .string ⟨#[]⟩]
  rwa [size_alloc] at this)
 have HA : Hid (Blk ((w.alloc (.cells #[.int .i64 k, .int .i64 n, .string s, .slice q l.length c] 25)).alloc (.cells #[.int .i64 0, .int .i64 0, .string ⟨#[]⟩] 34)) w.heap.size 25 #[.int .i64 k, .int .i64 n, .string s, .slice q l.length c]) := Lib.hid ((Blk.new w _ _).alloc _)
 have HI := Lib.hid (h.ext HE.out)
 have HBED := Lib.hid (B.ext HE.out)
 have NB : Hid (¬ Foot g tv rs (w.heap.size + 1)) := Lib.hid (fun hx => by have := h.low hx; omega)
 have NA : Hid (¬ Foot g tv rs w.heap.size) := Lib.hid (fun hx => by have := h.low hx; omega)
 have HV := Lib.hid ((hv.ext HE.out).keep (fun _ _ _ _ hc => hc) (fun b hlt (hb : b < w.heap.size ∧ _) => (⟨hlt, hb.2⟩ : b < _ ∧ ¬ Foot g tv rs b)))
 obtain ⟨r, hr⟩ : ∃ r, ((if tabW H = sNone then ((valsP (tabH H) (tabV H) 0 l).1, if (valsP (tabH H) (tabV H) 0 l).1 = sNone then tabV H else Vl.zero, (valsP (tabH H) (tabV H) 0 l).2) else (tabW H, Vl.zero, tabH H)) : Br3) = r := ⟨_, rfl⟩
 rw [hr]
 have HR := Lib.hid hr
 have c0 := HBED.out.h.cell 0
 simp only [List.getElem?_toArray, List.getElem?_cons_zero, List.getElem?_cons_succ] at c0
 obtain ⟨tw, htw⟩ : ∃ tw, tabW H = tw := ⟨_, rfl⟩
 have hc := fun (W : World) (hW : HeapIn W g tv rs H) => table_step g tv rs H W hW (by omega)
 rw [htw] at hc
 have HC0 := Lib.hid hc
 have HTW := Lib.hid htw
 have HL : Hid ((tabH H).tabs.length + l.length + itL l ≤ 1000000000) := Lib.hid (by have := tabH_len H; omega)
 have HIH := Lib.hid IH
 have HF := Lib.hid hf
 have H6 := Lib.hid h6
 have HTX := Lib.hid htx
 have HMX : Hid (l.length ≤ 1000000000) := Lib.hid (by omega)
 clear h hc htw hr B hv IH hf h6 htx hlen
 go_enter Tryz.func35, Tryz.ntmps35
 go_wp2_with fail
 refine (HC0.out _ HI.out).mono ?_
 rintro e w1 ⟨rfl, tv1, rs1, s1⟩
 rcases Decidable.em (tw = sNone) with hs | hs
 rotate_left
 ·have S1 := Lib.hid (HS.pre HE.out s1)
  clear s1
  go_wp2_with fail
  refine (got_no (tabV H) tw hs _).mono ?_
  rintro e w2 ⟨he, e2⟩
  unfold Fails at he
  subst he
  go_wp2_with fail
  refine ⟨rfl, ?_⟩
  have hr2 : r = (tw, Vl.zero, tabH H) := by
   rw [← HR.out, HTW.out, if_neg hs]
  rw [hr2]
  exact VayE.mk0 hs rfl (S1.out.ext e2)
 subst hs
 obtain ⟨t, ht⟩ : ∃ t, tabV H = t := ⟨_, rfl⟩
 have HR2 : Hid (((valsP (tabH H) t 0 l).1, if (valsP (tabH H) t 0 l).1 = sNone then t else Vl.zero, (valsP (tabH H) t 0 l).2) = r) := Lib.hid (by rw [← HR.out, if_pos HTW.out, ht])
 obtain ⟨R, hR⟩ : ∃ R, valsP (tabH H) t 0 l = R := ⟨_, rfl⟩
 rw [hR] at HR2
 have HRR := Lib.hid hR
 rw [ht]
 clear ht HR HTW HC0 hR
 obtain ⟨tk, tn, ts⟩ := t
 have S1 := Lib.hid s1
 clear s1 c0
 go_wp2_with fail
 refine (got_yes ⟨tk, tn, ts⟩ _).mono ?_
 rintro e w2 ⟨rfl, e2⟩
 have e6 := e2.trans ((Ext.refl w2).alloc (.cells #[.int .i64 tk, .int .i64 tn, .string ts] 34))
 have S2 := Lib.hid (S1.out.ext e6)
 have T6 := Lib.hid (Blk.new w2 34 #[.int .i64 tk, .int .i64 tn, .string ts])
 have N6 : Hid (¬ Foot g tv1 rs1 w2.heap.size) := Lib.hid (fun hx => by
  have := (S1.out.ext e2).heap.low hx; omega)
 have d3 := (HA.out.step S2.out NA.out).cell 3
 simp only [List.getElem?_toArray, List.getElem?_cons_zero, List.getElem?_cons_succ] at d3
 have d3' := (HA.out.step (S1.out.ext e2) NA.out).cell 3
 simp only [List.getElem?_toArray, List.getElem?_cons_zero, List.getElem?_cons_succ] at d3'
 have dlt := (HA.out.step (S1.out.ext e2) NA.out).lt
 have dne : ¬ w.heap.size = w2.heap.size := by omega
 clear e2 e6
 go_wp2_with fail
 clear d3 d3' dlt dne
 generalize w2.alloc (.cells #[.int .i64 tk, .int .i64 tn, .string ts] 34) = W at *
 obtain ⟨b6, hb6⟩ : ∃ b6, w2.heap.size = b6 := ⟨_, rfl⟩
 rw [hb6] at T6 N6 ⊢
 clear hb6
 have YBED := Lib.hid (HBED.out.step S2.out)
 have YB := Lib.hid (HB.out.step S2.out NB.out)
 have YV := Lib.hid (HV.out.step S2.out)
 have MB := Lib.hid (S2.out.notin HB.out.lt NB.out)
 have UALL := Lib.hid (fun wc tv' rs' Hx (hs : HS W g tv1 rs1 wc tv' rs' Hx) => HS.pre HE.out (S2.out.trans hs))
 have HSR := Lib.hid (HS.refl S2.out.heap)
 clear S1 S2 HBED HB HV HA HI NA NB HE
 go_loopw [17] (fun v17 wr => ∃ (j : Nat) (tv' : Value) (rs' : List (Nat × Nat)) (Hc : Hp), v17 = .int .i64 j ∧ j ≤ l.length ∧ Hid (HS W g tv1 rs1 wr tv' rs' Hc) ∧ Hid (valsP Hc ⟨tk, tn, ts⟩ j (l.drop j) = R) ∧ Hid (Hc.tabs.length + (l.length - j) + itL (l.drop j) ≤ 1000000000)) (fun v17 _ => l.length - (intOf v17).toNat)
 case atStart => exact ⟨0, tv1, rs1, tabH H, rfl, Nat.zero_le _, HSR, Lib.hid HRR.out, Lib.hid (by simpa using HL.out)⟩
 case round =>
  obtain ⟨j, tv', rs', Hc, rfl, hj, HS1, SPEC, LEN⟩ := hrel
  by_cases hlt : j < l.length
  ·obtain ⟨b, o, qy, cy, D', hq, hok, x0, x1, x2, x3, LV⟩ := (YV.out.step HS1.out).elem j hlt
   have HF2 := Lib.hid (fineL_at HF.out j hlt)
   have H62 := Lib.hid (i64L_at H6.out j hlt)
   have HTX2 := Lib.hid (Nat.le_trans (txL_at l j hlt) HTX.out)
   have hd := List.drop_eq_getElem_cons hlt
   have hit := itL_drop l j hlt
   subst hq
   generalize l[j] = y at *
   have SPEC1 := SPEC.out
   have LEN1 := LEN.out
   rw [hd, valsP_cons] at SPEC1
   rw [hit] at LEN1
   obtain ⟨p, hp⟩ : ∃ p, valP Hc y = p := ⟨_, rfl⟩
   have hpl := valP_len y Hc
   have hp6 := valP_in64 y Hc H62.out (by omega)
   rw [hp] at SPEC1 hpl hp6
   obtain ⟨yw, yv, yH⟩ := p
   simp only at SPEC1 hpl hp6
   obtain ⟨sw, hsw⟩ : ∃ sw, setW yH ⟨tk, tn, ts⟩ (iK ((j : Int) + 1)) yv = sw := ⟨_, rfl⟩
   rw [hsw] at SPEC1
   have HSW := Lib.hid hsw
   have SPEC2 : Hid (yw = sNone → sw = sNone → valsP (setH yH ⟨tk, tn, ts⟩ (iK ((j : Int) + 1)) yv) ⟨tk, tn, ts⟩ (j + 1) (l.drop (j + 1)) = R) := Lib.hid (fun h1 h2 => by rw [← SPEC1, if_pos h1, if_pos h2])
   have RL : Hid (¬ yw = sNone → r = (yw, Vl.zero, yH)) := Lib.hid (fun h1 => by
    have h2 : R = (yw, yH) := by rw [← SPEC1, if_neg h1]
    rw [← HR2.out, h2]
    simp only [if_neg h1])
   have RS : Hid (yw = sNone → ¬ sw = sNone → r = (sw, Vl.zero, setH yH ⟨tk, tn, ts⟩ (iK ((j : Int) + 1)) yv)) := Lib.hid (fun h0 h1 => by
    have h2 : R = (sw, setH yH ⟨tk, tn, ts⟩ (iK ((j : Int) + 1)) yv) := by rw [← SPEC1, if_pos h0, if_neg h1]
    rw [← HR2.out, h2]
    simp only [if_neg h1])
   have LEN2 : Hid ((setH yH ⟨tk, tn, ts⟩ (iK ((j : Int) + 1)) yv).tabs.length + (l.length - (j + 1)) + itL (l.drop (j + 1)) ≤ 1000000000) := Lib.hid (by rw [setH_len]; omega)
   have HM64 : Hid (yH.tabs.length ≤ 9223372036854775807) := Lib.hid (by omega)
   have HP6 := Lib.hid hp6
   have HN1 : Hid (Hc.tabs.length + 1 + itR y ≤ 1000000000) := Lib.hid (by omega)
   have HP := Lib.hid hp
   have hmx := HMX.out
   have k0 : (0 : Int) ≤ (j : Int) := by omega
   have k1 : (j : Int) < (l.length : Int) := by omega
   have hwr : IntKind.i64.wrap ((j : Int) + 1) = (j : Int) + 1 := IntWalk.i64_in _ (by omega)
   have HJ : Hid (in64 ((j : Int) + 1)) := Lib.hid ⟨by omega, by omega⟩
   have E8 := Lib.hid ((Ext.refl wr).alloc (.cells #[.int .i64 y.k, .int .i64 y.n, .string y.s, .slice qy y.l.length cy] 25))
   have B8 := Lib.hid (Blk.new wr 25 #[.int .i64 y.k, .int .i64 y.n, .string y.s, .slice qy y.l.length cy])
   have HS8 := Lib.hid (HS1.out.ext E8.out)
   have N8 : Hid (¬ Foot g tv' rs' wr.heap.size) := Lib.hid (fun hx => by have := HS1.out.heap.low hx; omega)
   have LV8 := Lib.hid ((LV.ext E8.out).keep (fun _ _ _ _ hc => hc) (fun b hlt (hb : b < wr.heap.size ∧ ¬ Foot g tv' rs' b) => (⟨hlt, hb.2⟩ : b < _ ∧ ¬ Foot g tv' rs' b)))
   clear hd hit SPEC1 LEN1 hp hpl hp6 hsw SPEC LEN hok LV E8
   go_wp2_with fail
   clear x0 x1 x2 x3
   generalize wr.alloc (.cells #[.int .i64 y.k, .int .i64 y.n, .string y.s, .slice qy y.l.length cy] 25) = W8 at *
   obtain ⟨b8, hb8⟩ : ∃ b8, wr.heap.size = b8 := ⟨_, rfl⟩
   rw [hb8] at B8 N8 ⊢
   clear hb8
   have ZBED := Lib.hid (YBED.out.step HS8.out)
   have Z6 := Lib.hid (T6.out.step HS8.out N6.out)
   have M6 := Lib.hid (HS8.out.notin T6.out.lt N6.out)
   have KS : Hid (∀ wc tv'' rs'' Hx, HS W8 g tv' rs' wc tv'' rs'' Hx → (fun w' => w'.cell? ⟨sb, 0, none⟩ = some (.func (.func 26) #[] #[.pointer (some ⟨hb, 0, none⟩)]) ∧ w'.cell? ⟨b6, 0, none⟩ = some (.int .i64 tk) ∧ w'.cell? ⟨b6, 1, none⟩ = some (.int .i64 tn) ∧ w'.cell? ⟨b6, 2, none⟩ = some (.string ts) ∧ w'.cell? ⟨lb, 0, none⟩ = some (.func (.func 36) #[] #[.pointer (some ⟨kb, 0, none⟩)]) ∧ w'.cell? ⟨b8, 0, none⟩ = some (.int .i64 y.k) ∧ w'.cell? ⟨b8, 1, none⟩ = some (.int .i64 y.n) ∧ w'.cell? ⟨b8, 2, none⟩ = some (.string y.s) ∧ w'.cell? ⟨b8, 3, none⟩ = some (.slice qy y.l.length cy)) wc) := Lib.hid (fun wc tv'' rs'' Hx hs =>
    ⟨(ZBED.out.step hs).s.cell 0, (Z6.out.step hs M6.out).cell 0, (Z6.out.step hs M6.out).cell 1, (Z6.out.step hs M6.out).cell 2, (ZBED.out.step hs).l.cell 0, (B8.out.step hs N8.out).cell 0, (B8.out.step hs N8.out).cell 1, (B8.out.step hs N8.out).cell 2, (B8.out.step hs N8.out).cell 3⟩)
   have UW : Hid (∀ wc tv'' rs'' Hx, HS W8 g tv' rs' wc tv'' rs'' Hx → HS W g tv1 rs1 wc tv'' rs'' Hx) := Lib.hid (fun wc tv'' rs'' Hx hs => HS8.out.trans hs)
   have NOL : Hid (¬ yw = sNone → ∀ wc tv'' rs'', HS W8 g tv' rs' wc tv'' rs'' yH → VayE w g tv rs r (.panicked [{ v := bfailV yw, recovered := false }]) wc) := Lib.hid (fun hh wc tv'' rs'' hs => by
    rw [RL.out hh]
    exact VayE.mk0 hh rfl (UALL.out _ _ _ _ (UW.out _ _ _ _ hs)))
   have NOS : Hid (yw = sNone → ¬ sw = sNone → ∀ wc tv'' rs'', HS W8 g tv' rs' wc tv'' rs'' (setH yH ⟨tk, tn, ts⟩ (iK ((j : Int) + 1)) yv) → VayE w g tv rs r (.panicked [{ v := bfailV (setW yH ⟨tk, tn, ts⟩ (iK ((j : Int) + 1)) yv), recovered := false }]) wc) := Lib.hid (fun h0 hh wc tv'' rs'' hs => by
    rw [RS.out h0 hh, HSW.out]
    exact VayE.mk0 hh rfl (UALL.out _ _ _ _ (UW.out _ _ _ _ hs)))
   have IHC : Hid (∀ wc, HS W8 g tv' rs' wc tv' rs' Hc → Calls Tryz.prog 36 #[.agg #[.int .i64 y.k, .int .i64 y.n, .string y.s, .slice qy y.l.length cy], .pointer (some ⟨kb, 0, none⟩)] wc (VayE wc g tv' rs' (yw, yv, yH))) := Lib.hid (fun wc hs => by
    rw [← HP.out]
    exact HIH.out wc g tv' rs' Hc hs.heap hb sb lb kb M o1 o2 (ZBED.out.step hs) y qy cy D' HN1.out HTX2.out HF2.out H62.out (LV8.out.step hs))
   have HSET := Lib.hid (fun (Q : World) tv'' rs'' (hZ : HeapIn Q g tv'' rs'' yH) hx hn => set_do g tv'' rs'' yH ⟨tk, tn, ts⟩ (iK ((j : Int) + 1)) yv Q hZ HM64.out HJ.out HP6.out hb hx hn)
   have HXS : Hid (∀ wc tv'' rs'' Hx, HS W8 g tv' rs' wc tv'' rs'' Hx → Blk wc hb 28 #[.pointer (some ⟨g, 0, none⟩)] ∧ ¬ Foot g tv'' rs'' hb) := Lib.hid (fun wc tv'' rs'' Hx hs => ⟨(ZBED.out.step hs).h, (ZBED.out.step hs).off _ (by simp)⟩)
   have U0 := Lib.hid (HS.of_ext HS8.out.heap (Ext.refl W8).drew)
   obtain ⟨yk, yn, ys⟩ := yv
   clear ZBED Z6 M6 HIH HP HN1 HTX2 HF2 H62 LV8 RL RS HS1 HSR HRR HR2 HL HF H6 HTX
   refine wp_region_held_drew (S := fun w' => w'.cell? ⟨sb, 0, none⟩ = some (.func (.func 26) #[] #[.pointer (some ⟨hb, 0, none⟩)]) ∧ w'.cell? ⟨b6, 0, none⟩ = some (.int .i64 tk) ∧ w'.cell? ⟨b6, 1, none⟩ = some (.int .i64 tn) ∧ w'.cell? ⟨b6, 2, none⟩ = some (.string ts) ∧ w'.cell? ⟨lb, 0, none⟩ = some (.func (.func 36) #[] #[.pointer (some ⟨kb, 0, none⟩)]) ∧ w'.cell? ⟨b8, 0, none⟩ = some (.int .i64 y.k) ∧ w'.cell? ⟨b8, 1, none⟩ = some (.int .i64 y.n) ∧ w'.cell? ⟨b8, 2, none⟩ = some (.string y.s) ∧ w'.cell? ⟨b8, 3, none⟩ = some (.slice qy y.l.length cy)) (by kernel_rfl) (KS.out _ _ _ _ U0.out) (fun hHeld => ?_)
   have U := Lib.hid U0.out
   clear U0
   refine wpAnyH_take (i := 0) (v := ?_) rfl (by kernel_rfl) (by kernel_rfl) (by kernel_rfl) (fun _ _ _ h => h) (Or.inl ⟨by rfl, (by intro w hSw; (try dsimp only at hSw); go_simp; first | done | with_reducible rfl)⟩) (by assumption) ?_
   (try simp only [Act.put, List.setIfInBounds_toArray, List.set_cons_zero, List.set_cons_succ])
   refine wpAnyH_take (i := 1) (v := ?_) rfl (by kernel_rfl) (by kernel_rfl) (by kernel_rfl) (fun _ _ _ h => h) (Or.inl ⟨by rfl, (by intro w hSw; (try dsimp only at hSw); go_simp; first | done | with_reducible rfl)⟩) (by assumption) ?_
   (try simp only [Act.put, List.setIfInBounds_toArray, List.set_cons_zero, List.set_cons_succ])
   refine wpAnyH_take (i := 2) (v := ?_) rfl (by kernel_rfl) (by kernel_rfl) (by kernel_rfl) (fun _ _ _ h => h) (Or.inl ⟨by rfl, (by intro w hSw; (try dsimp only at hSw); go_simp; first | done | with_reducible rfl)⟩) (by assumption) ?_
   (try simp only [Act.put, List.setIfInBounds_toArray, List.set_cons_zero, List.set_cons_succ])
   refine wpAnyH_take (i := 3) (v := ?_) rfl (by kernel_rfl) (by kernel_rfl) (by kernel_rfl) (fun _ _ _ h => h) (Or.inl ⟨by rfl, (by intro w hSw; (try dsimp only at hSw); go_simp; first | done | with_reducible rfl)⟩) (by assumption) ?_
   (try simp only [Act.put, List.setIfInBounds_toArray, List.set_cons_zero, List.set_cons_succ])
   refine wpAnyH_take (i := 5) (v := ?_) rfl (by kernel_rfl) (by kernel_rfl) (by kernel_rfl) (fun _ _ _ h => h) (Or.inl ⟨by rfl, (by intro w hSw; (try dsimp only at hSw); go_simp; first | done | with_reducible rfl)⟩) (by assumption) ?_
   (try simp only [Act.put, List.setIfInBounds_toArray, List.set_cons_zero, List.set_cons_succ])
   refine wpAnyH_take (i := 6) (v := ?_) rfl (by kernel_rfl) (by kernel_rfl) (by kernel_rfl) (fun _ _ _ h => h) (Or.inl ⟨by rfl, (by intro w hSw; (try dsimp only at hSw); go_simp; first | done | with_reducible rfl)⟩) (by assumption) ?_
   (try simp only [Act.put, List.setIfInBounds_toArray, List.set_cons_zero, List.set_cons_succ])
   refine wpAnyH_ready (rs := [4]) (by kernel_rfl) (by simp) ?_
   refine AllReadyH.cons rfl (fun K hK => ?_) ?_
   ·go_simp
    refine (int_any _ _).mono ?_
    rintro e w3 ⟨rfl, e3⟩
    replace U := Lib.hid (U.out.ext e3)
    clear e3
    clear hHeld
    refine hK.out _ _ (KS.out _ _ _ _ U.out) (fun hHeld => ?_)
    clear hK K
    (try simp only [Act.put, List.setIfInBounds_toArray, List.set_cons_zero, List.set_cons_succ])
    refine wpAnyH_ready (rs := [7]) (by kernel_rfl) (by simp) ?_
    refine AllReadyH.cons rfl (fun K hK => ?_) ?_
    ·go_simp
     refine (IHC.out _ U.out).mono ?_
     intro e w4 hE
     obtain ⟨tv4, rs4, s4⟩ := hE.step
     have U4 := Lib.hid (U.out.trans s4)
     clear U
     have U := U4
     clear U4
     rcases Decidable.em (yw = sNone) with hs | hs
     rotate_left
     ·have he := hE.no hs
      unfold Fails at he
      subst he
      exact ⟨rfl, NOL.out hs _ _ _ U.out⟩
     obtain rfl := hE.yes hs
     clear hE s4
     clear hHeld
     refine hK.out _ _ (KS.out _ _ _ _ U.out) (fun hHeld => ?_)
     clear hK K
     (try simp only [Act.put, List.setIfInBounds_toArray, List.set_cons_zero, List.set_cons_succ])
     refine wpAnyH_ready (rs := [8]) (by kernel_rfl) (by simp) ?_
     refine AllReadyH.cons rfl (fun K hK => ?_) ?_
     ·go_simp
      rcases Decidable.em (sw = sNone) with hs2 | hs2
      rotate_left
      ·refine (HSET.out _ _ _ U.out.heap (HXS.out _ _ _ _ U.out).1 (HXS.out _ _ _ _ U.out).2).mono ?_
       intro e w6 hE
       have he := hE.no (by rw [HSW.out]; exact hs2)
       unfold Fails at he
       subst he
       exact ⟨rfl, NOS.out hs hs2 _ _ _ (U.out.trans hE.step)⟩
      refine (HSET.out _ _ _ U.out.heap (HXS.out _ _ _ _ U.out).1 (HXS.out _ _ _ _ U.out).2).mono ?_
      intro e w6 hE
      obtain rfl := hE.yes (by rw [HSW.out]; exact hs2)
      replace U := Lib.hid (U.out.trans hE.step)
      clear hE
      clear hHeld
      refine hK.out _ _ (KS.out _ _ _ _ U.out) (fun hHeld => ?_)
      clear hK K
      (try simp only [Act.put, List.setIfInBounds_toArray, List.set_cons_zero, List.set_cons_succ])
      refine wpAnyH_done (by kernel_rfl) ?_ _
      go_wp2_with fail
      go_roundw
      case rel => exact ⟨j + 1, _, _, _, rfl, by omega, Lib.hid (UW.out _ _ _ _ U.out), Lib.hid (SPEC2.out hs hs2), LEN2⟩
      case measure => simp [intOf]; omega
     ·skip
      exact AllReadyH.nil
    ·skip
     exact AllReadyH.nil
   ·skip
    exact AllReadyH.nil
  ·have hge : l.length ≤ j := by omega
   obtain rfl : j = l.length := by omega
   have hdn : decide ((l.length : Int) < (l.length : Int)) = false := by simp
   have RE : Hid (r = (sNone, ⟨tk, tn, ts⟩, Hc)) := Lib.hid (by
    have h1 := SPEC.out
    rw [List.drop_length] at h1
    unfold valsP at h1
    rw [← HR2.out, ← h1]
    simp)
   obtain ⟨z0, z1, z2, y0, y1, y2⟩ := three (YB.out.step HS1.out MB.out)
   have hltw := (YB.out.step HS1.out MB.out).lt
   obtain ⟨x0, x1, x2, _, _, _⟩ := three (T6.out.step HS1.out N6.out)
   clear SPEC LEN hlt
   go_wp2_with fail
   exact bodyPost_ret (v := (⟨tk, tn, ts⟩ : Vl).v) (by simp [results, Tryz.results35, go_sem, *]) rfl (by
    rw [RE.out]
    exact VayE.mk1 rfl rfl ((UALL.out _ _ _ _ HS1.out).set3 (Nat.le_succ _) (HS1.out.notin YB.out.lt MB.out) _ _ _))
end Go.Proofs.YtlfihdcgbhdajaaGreatDoor
