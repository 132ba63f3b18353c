/- A value is put under a key, by the document's heap: the rows are built anew. -/
import Derived.Test.YtlfihdcgbhdajaaGreatDoorYD2
import Derived.Deep.RegionLaw
import Derived.Deep.CutRange
import Derived.Deep.DeepCutAuto
namespace Go.Proofs.YtlfihdcgbhdajaaGreatDoor
open Go.RowKit
set_option linter.unusedVariables false
set_option linter.unusedSimpArgs false

set_option maxRecDepth 100000 in
set_option maxHeartbeats 8000000 in
theorem rset_new (g : Nat) (tv : Value) (H : Hp) (t k v : Vl) (w : World) (h : RHeapIn w g tv H) (hlen : H.tabs.length ≤ 9223372036854775807) (hv : v.ck = true) (hn : getW H t k = sNone) (hf : (getV H t k).k = 0) (h0 : ¬ v.k = 0) (hl : (tabOf H t).length < 65536) (hm : 1 ≤ H.cells - H.spent) (hkn : in64 k.n) (hvn : in64 v.n) :
  Calls Tryz.prog 60 #[.pointer (some ⟨g, 0, none⟩), t.v, k.v, v.v] w fun e w' => e = .returned (.string sNone) ∧ RHeapIn w' g tv (setH H t k v) ∧ Touch (RFoot g tv) w w' := by
 have cG := fun W hW => rget_any g tv H t k W hW hlen
 have HS := Lib.hid (setH_fresh hv hn hf h0 hl hm).2
 have HP := Lib.hid ((tabOf_ok h.ok (ofW_none (getW_none hn).2.1).2.2.2.2).put (kOk_of hn hkn) hv hvn (fun _ _ => hl))
 obtain ⟨g1, g2, g3⟩ := getW_none hn
 have ho := fun W hW => rof_any g tv H t W hW hlen
 obtain ⟨o1, o2, o3, o4, o5⟩ := ofW_none g2
 have hnn : rofN H t = t.n := by unfold rofN; rw [if_pos g2]
 rw [hnn, g2] at ho
 have HT := Lib.hid (tabOf_get o5)
 have hOK := h.ok
 have hTb := tabOf_ok hOK o5
 have hmost := hTb.most
 have HTb := Lib.hid hTb
 have hs0 := sNone_list
 have hs1 : sNone.toList.isEmpty = true := by rw [hs0]; rfl
 have b1 := hOK.low
 have b2 := hOK.le
 have b3 := hOK.most
 obtain ⟨u, hu⟩ : ∃ u, getV H t k = u := ⟨_, rfl⟩
 rw [hu] at hf
 simp only [hu, hn] at cG
 have HU := Lib.hid hu
 have HN := Lib.hid hn
 clear g1 g2 g3 hu hn hnn hOK hTb
 obtain ⟨uk, un, us⟩ := u
 simp only at hf
 obtain ⟨tk0, i, ts⟩ := t
 simp only at o1 o2 o3 o4 o5 HT ho
 obtain ⟨i, rfl⟩ : ∃ j : Nat, i = j := ⟨i.toNat, by omega⟩
 subst o2
 rw [Int.toNat_natCast] at HT o5
 subst hf
 obtain ⟨kk, kn, ks⟩ := k
 obtain ⟨vk, vn, vs⟩ := v
 simp only at h0
 have h0' : (vk == 0) = false := by simpa using h0
 have h1' : (vk != 0) = true := by simpa using h0
 have HV0 := Lib.hid h0
 have htk : tkB H.cells H.spent 1 = true := (tkB_yes hm).symm
 have htc : tk H.cells H.spent 1 = H.spent + 1 := tk_yes hm
 have hm' : H.spent + 1 ≤ H.cells := by omega
 clear h0 hm
 have HI := Lib.hid h
 clear h hlen
 go_enter Tryz.func60, Tryz.ntmps60
 go_wp2_with fail
 refine (cG _ (HI.out.ext ((((Ext.refl w).alloc _).alloc _).alloc _))).mono ?_
 rintro e w1 ⟨rfl, e1⟩
 have k1 := ((((Ext.refl w).alloc _).alloc _).alloc _).trans e1
 obtain ⟨z1, z2, z3⟩ := e1.lt3
 obtain ⟨p1, p2⟩ := e1.cells
 clear cG
 go_wp2_with fail
 refine (rcheckV _ true hv _).mono ?_
 rintro e w2 ⟨rfl, e2⟩
 have k2 := (k1.alloc _).trans e2
 have y1 := e2.lt1
 have y2 : w.heap.size < w2.heap.size := by omega
 have y3 : w.heap.size + 1 < w2.heap.size := by omega
 have y4 : w.heap.size + 2 < w2.heap.size := by omega
 obtain ⟨q1, q2⟩ := e2.cells
 clear e1 e2
 go_wp2_with fail
 refine (ho _ (HI.out.ext k2)).mono ?_
 rintro e w3 ⟨rfl, e3⟩
 have k3 := k2.trans e3
 have j1 : w1.heap.size < w3.heap.size := by have := e3.le; omega
 have j2 : w.heap.size < w3.heap.size := by omega
 have j3 : w.heap.size + 1 < w3.heap.size := by omega
 have j4 : w.heap.size + 2 < w3.heap.size := by omega
 obtain ⟨r1, r2⟩ := e3.cells
 obtain ⟨rows, hrow, hrl, hrt⟩ := (HI.out.ext k3).rows
 have hir : i < rows.length := by omega
 obtain ⟨r, hr⟩ : ∃ r, rows[i]? = some r := ⟨_, List.getElem?_eq_getElem hir⟩
 have HR := Lib.hid hr
 obtain ⟨gb, cap, e0, hgb, c1, c2⟩ := rrow_cells hrow i _ HR.out
 obtain ⟨L, l1, l2, l3⟩ := hrt i _ _ HR.out HT.out
 have hcl := l1.count
 have hl1 : decide ((65536 : Int) ≤ (L.length : Int)) = false := by rw [decide_eq_false_iff_not]; omega
 have hl2 : decide (65536 ≤ L.length) = false := by rw [decide_eq_false_iff_not]; omega
 have hl3 : L.length ≤ 65535 := by omega
 clear hl
 obtain ⟨qk, ck, ek⟩ := l2.slice
 obtain ⟨qv, cv, ev⟩ := l3.slice
 have c0 : w3.cell? ⟨g, 0, none⟩ = some tv := (HI.out.ext k3).head.cell 0
 rw [List.length_map] at ek ev
 rw [ek] at c1 l2
 rw [ev] at c2 l3
 rw [e0] at c0
 have L1 := Lib.hid l1
 have L2 := Lib.hid l2
 have L3 := Lib.hid l3
 have hgl : g < w3.heap.size := (HI.out.ext k3).head.lt
 have E0 := Lib.hid e0
 have EK := Lib.hid ek
 have EV := Lib.hid ev
 have HRows := Lib.hid (And.intro hrow (And.intro hrl hrt))
 clear ho e3 hrow hrl hrt hir hr e0 l1 l2 l3 ek ev
 go_wp2_with fail
 have H4 := Lib.hid (HI.out.ext (k3.alloc (.cells #[.slice qk L.length ck, .slice qv L.length cv] 91)))
 have x1 : ¬ w.heap.size = g := by have := HI.out.head.lt; omega
 have x2 : ¬ w.heap.size + 1 = g := by have := HI.out.head.lt; omega
 have x3 : ¬ w.heap.size + 1 + 1 = g := by have := HI.out.head.lt; omega
 have x4 : ¬ w3.heap.size = g := by omega
 refine (rtake_any g tv H.cells H.spent 1 _ H4.out.head b1 b2 b3 (by omega) (by omega)).mono ?_
 rintro e w5 ⟨rfl, ho5, hb5⟩
 have j5 := ho5.lt1
 have j6 : w.heap.size < w5.heap.size := by omega
 have j7 : w.heap.size + 1 < w5.heap.size := by omega
 have j8 : w.heap.size + 2 < w5.heap.size := by omega
 obtain ⟨s1, s2⟩ := ho5.cells
 rw [htc] at hb5
 have H5 := Lib.hid (H4.out.only ho5 _ _ hb5 (by omega) hm' b3)
 have hE4 := (Ext.refl w3).alloc (.cells #[.slice qk L.length ck, .slice qv L.length cv] 91)
 have AL := Lib.hid (And.intro L1.out (And.intro ((L2.out.ext hE4).only H4.out.head ho5) ((L3.out.ext hE4).only H4.out.head ho5)))
 have AH := Lib.hid H5.out
 have AT := Lib.hid ((Touch.of_ext (k3.alloc (.cells #[.slice qk L.length ck, .slice qv L.length cv] 91))).trans (Touch.only (F := RFoot g tv) ho5 (.inl rfl)))
 have AGB : Hid (gb < w5.heap.size) := Lib.hid (by omega)
 have AC : Hid (w5.cell? ⟨g, 0, none⟩ = some (.slice (some ⟨gb, 0, none⟩) H.tabs.length cap)) := Lib.hid ((H5.out.head.cell 0).trans (by rw [E0.out]; rfl))
 clear ho5 hb5 htc hE4
 go_wp2_with fail
 obtain ⟨WB, hWB⟩ : ∃ WB, WB = w5.alloc (.cells #[.slice none 0 0, .slice none 0 0] 91) := ⟨_, rfl⟩
 have hEB : Ext w5 WB := by rw [hWB]; exact (Ext.refl _).alloc _
 have hBs : WB.heap.size = w5.heap.size + 1 := by rw [hWB]; simp [size_alloc]
 have hYB : Blk WB (w5.heap.size) 91 #[.slice none 0 0, .slice none 0 0] := by
  have := Blk.new (w5) 91 #[.slice none 0 0, .slice none 0 0]
  rw [hWB]
  simpa [size_alloc] using this
 have B0 : Hid (WB.cell? ⟨w3.heap.size, 0, none⟩ = some (.slice qk L.length ck) ∧ WB.cell? ⟨w3.heap.size, 1, none⟩ = some (.slice qv L.length cv) ∧
   WB.cell? ⟨w.heap.size + 1, 0, none⟩ = some (.int .i64 kk) ∧ WB.cell? ⟨w.heap.size + 1, 1, none⟩ = some (.int .i64 kn) ∧ WB.cell? ⟨w.heap.size + 1, 2, none⟩ = some (.string ks) ∧
   WB.cell? ⟨w.heap.size + 1 + 1, 0, none⟩ = some (.int .i64 vk) ∧ WB.cell? ⟨w.heap.size + 1 + 1, 1, none⟩ = some (.int .i64 vn) ∧ WB.cell? ⟨w.heap.size + 1 + 1, 2, none⟩ = some (.string vs) ∧
   WB.cell? ⟨g, 0, none⟩ = some (.slice (some ⟨gb, 0, none⟩) H.tabs.length cap)) := Lib.hid (by
  refine ⟨?_, ?_, ?_, ?_, ?_, ?_, ?_, ?_, ?_⟩
  all_goals (refine (hEB.cells.1 _ _ (by first | omega | (rw [size_alloc]; omega))).trans ?_)
  ·go_simp
  ·go_simp
  ·go_simp
  ·go_simp
  ·go_simp
  ·go_simp
  ·go_simp
  ·go_simp
  ·exact AC.out)
 obtain ⟨L1a, L2a, L3a⟩ := AL.out
 have hjX : w3.heap.size < w5.heap.size := by omega
 have hgY : g < w5.heap.size := by omega
 have hgbY : gb < w5.heap.size := AGB.out
 have L2b := Lib.hid L2a
 have L3b := Lib.hid L3a
 have HEB := Lib.hid hEB
 have HB := Lib.hid (AH.out.ext hEB)
 have HTB := Lib.hid (AT.out.ext hEB)
 have hYlt : ∀ o, w5.heap[w5.heap.size]? = some o → False := fun o ho => by
  have := lt_of_block ho
  try simp only [size_alloc] at this
  omega
 have HYL := Lib.hid hYlt
 have HYB := Lib.hid hYB
 clear hEB hYB L2a L3a hYlt
 rw [← hWB]
 clear hWB
 go_loopw [16] (fun x wr => ∃ (j : Nat) (kv vv : Value), x = .int .i64 j ∧ j ≤ L.length ∧ Hid (Only (w5.heap.size) WB wr ∧ Blk wr (w5.heap.size) 91 #[kv, vv] ∧ Two wr WB.heap.size kv ((drop1 (L.take j) ⟨kk, kn, ks⟩).map (·.1)) vv ((drop1 (L.take j) ⟨kk, kn, ks⟩).map (·.2)))) (fun x _ => L.length - (intOf x).toNat)
 case atStart => exact ⟨0, _, _, rfl, Nat.zero_le _, Lib.hid ⟨Only.refl _ _, HYB.out, by simpa [drop1] using Two.nil WB WB.heap.size (Nat.le_refl _)⟩⟩
 case round =>
  obtain ⟨j, kv, vv, rfl, hj, HW⟩ := hrel
  rcases Nat.lt_or_ge j L.length with hlt | hge
  ·have hdt := drop1_take (K := ⟨kk, kn, ks⟩) hlt
   obtain ⟨x, hx⟩ : ∃ x, x = L[j] := ⟨_, rfl⟩
   rw [← hx] at hdt
   obtain ⟨bk, capk, ek, hbk, d1, d2, d3⟩ := L2b.out.cells j x.1 (by rw [hx]; simp [List.getElem?_map, List.getElem?_eq_getElem hlt])
   obtain ⟨bv, capv, ev, hbv, d4, d5, d6⟩ := L3b.out.cells j x.2 (by rw [hx]; simp [List.getElem?_map, List.getElem?_eq_getElem hlt])
   rw [List.length_map] at ek ev
   obtain ⟨rfl, rfl⟩ : qk = some ⟨bk, 0, none⟩ ∧ ck = capk := by injection ek with h1 _ h3; exact ⟨h1, h3⟩
   obtain ⟨rfl, rfl⟩ : qv = some ⟨bv, 0, none⟩ ∧ cv = capv := by injection ev with h1 _ h3; exact ⟨h1, h3⟩
   obtain ⟨⟨xk, xn, xs⟩, ⟨yk, yn, ys⟩⟩ := x
   simp only at d1 d2 d3 d4 d5 d6 hdt
   try simp only [size_alloc] at hbk hbv
   have DD : Hid (bk < w5.heap.size ∧ bv < w5.heap.size ∧ WB.cell? ⟨bk, j * 3, none⟩ = some (.int .i64 xk) ∧ WB.cell? ⟨bk, j * 3 + 1, none⟩ = some (.int .i64 xn) ∧ WB.cell? ⟨bk, j * 3 + 2, none⟩ = some (.string xs) ∧
     WB.cell? ⟨bv, j * 3, none⟩ = some (.int .i64 yk) ∧ WB.cell? ⟨bv, j * 3 + 1, none⟩ = some (.int .i64 yn) ∧ WB.cell? ⟨bv, j * 3 + 2, none⟩ = some (.string ys)) := Lib.hid (by
    refine ⟨by omega, by omega, ?_, ?_, ?_, ?_, ?_, ?_⟩
    all_goals (refine (HEB.out.cells.1 _ _ (by first | omega | (simp only [size_alloc]; omega))).trans ?_; assumption))
   clear ek ev hbk hbv d1 d2 d3 d4 d5 d6 hx
   have HDT := Lib.hid hdt
   clear hdt
   obtain ⟨D, hD⟩ : ∃ D, D = drop1 (L.take j) ⟨kk, kn, ks⟩ := ⟨_, rfl⟩
   rw [← hD] at HW HDT
   have hDl : D.length ≤ L.length := by rw [hD]; exact Nat.le_trans (List.length_filter_le _ _) (by rw [List.length_take]; omega)
   clear hD
   have HO := Lib.hid HW.out.1
   have HY := Lib.hid HW.out.2.1
   have H2 := Lib.hid HW.out.2.2
   clear HW
   obtain ⟨q1, c1, e1⟩ := H2.out.k.at0.slice
   obtain ⟨q2, c2, e2⟩ := H2.out.v.at0.slice
   rw [List.length_map] at e1 e2
   subst e1 e2
   obtain ⟨n, hn⟩ : ∃ n, n = D.length := ⟨_, rfl⟩
   rw [← hn] at HY H2 hDl
   have HNN := Lib.hid hn
   clear hn
   obtain ⟨b0, b1, b2, b3, b4, _⟩ := B0.out
   obtain ⟨hbkl, hbvl, d1, d2, d3, d4, d5, d6⟩ := DD.out
   replace b0 := (HO.out.cells.1 _ _ (by omega) (by omega)).trans b0
   replace b1 := (HO.out.cells.1 _ _ (by omega) (by omega)).trans b1
   replace b2 := (HO.out.cells.1 _ _ (by omega) (by omega)).trans b2
   replace b3 := (HO.out.cells.1 _ _ (by omega) (by omega)).trans b3
   replace b4 := (HO.out.cells.1 _ _ (by omega) (by omega)).trans b4
   replace d1 := (HO.out.cells.1 _ _ (by omega) (by omega)).trans d1
   replace d2 := (HO.out.cells.1 _ _ (by omega) (by omega)).trans d2
   replace d3 := (HO.out.cells.1 _ _ (by omega) (by omega)).trans d3
   replace d4 := (HO.out.cells.1 _ _ (by omega) (by omega)).trans d4
   replace d5 := (HO.out.cells.1 _ _ (by omega) (by omega)).trans d5
   replace d6 := (HO.out.cells.1 _ _ (by omega) (by omega)).trans d6
   have hlwr : WB.heap.size ≤ wr.heap.size := HO.out.le
   have hywr : w5.heap.size < wr.heap.size := by omega
   clear hbkl hbvl
   have y0 : wr.cell? ⟨w5.heap.size, 0, none⟩ = some (.slice q1 n c1) := HY.out.cell 0
   have y1 : wr.cell? ⟨w5.heap.size, 1, none⟩ = some (.slice q2 n c2) := HY.out.cell 1
   have hd : decide ((j : Int) < (L.length : Int)) = true := by rw [decide_eq_true_eq]; omega
   have hd' : decide (j < L.length) = true := by rw [decide_eq_true_eq]; exact hlt
   have g1 := fun a b x y W => vl_guard .neq (.inr rfl) a b x y W
   have v1 := fun W => vl_neq ⟨xk, xn, xs⟩ ⟨kk, kn, ks⟩ W
   by_cases he : (⟨xk, xn, xs⟩ : Vl) = ⟨kk, kn, ks⟩
   ·rw [decide_eq_true he] at v1
    have HQ := Lib.hid he
    clear he
    go_wp2_with fail
    go_quiet (fail)
    go_wp2_with fail
    go_roundw
    case rel => exact ⟨j + 1, _, _, by go_num, by omega, Lib.hid ⟨HO.out.ext ((Ext.refl _).drewN _), HY.out.drewN _, by
     rw [HDT.out, if_pos HQ.out]
     exact H2.out.ext ((Ext.refl _).drewN _)⟩⟩
    case measure => simp [intOf]; omega
   ·rw [decide_eq_false he] at v1
    have HQ := Lib.hid he
    clear he
    go_wp2_with fail
    go_quiet (fail)
    go_upto_region 20 with (fail)
    clear g1 v1 hd hd' y0 y1 b0 b1 b2 b3 b4 d1 d2 d3 d4 d5 d6
    have HOw6 := Lib.hid (HO.out.ext ((Ext.refl _).drewN nq))
    have HYw6 := Lib.hid (HY.out.drewN nq)
    have H2w6 := Lib.hid (H2.out.ext ((Ext.refl _).drewN nq))
    clear HO HY H2
    generalize wr.drewN nq = w6 at *
    obtain ⟨b0, b1, b2, b3, b4, _⟩ := B0.out
    obtain ⟨hbkl, hbvl, d1, d2, d3, d4, d5, d6⟩ := DD.out
    replace b0 := (HOw6.out.cells.1 _ _ (by omega) (by omega)).trans b0
    replace b1 := (HOw6.out.cells.1 _ _ (by omega) (by omega)).trans b1
    replace b2 := (HOw6.out.cells.1 _ _ (by omega) (by omega)).trans b2
    replace b3 := (HOw6.out.cells.1 _ _ (by omega) (by omega)).trans b3
    replace b4 := (HOw6.out.cells.1 _ _ (by omega) (by omega)).trans b4
    replace d1 := (HOw6.out.cells.1 _ _ (by omega) (by omega)).trans d1
    replace d2 := (HOw6.out.cells.1 _ _ (by omega) (by omega)).trans d2
    replace d3 := (HOw6.out.cells.1 _ _ (by omega) (by omega)).trans d3
    replace d4 := (HOw6.out.cells.1 _ _ (by omega) (by omega)).trans d4
    replace d5 := (HOw6.out.cells.1 _ _ (by omega) (by omega)).trans d5
    replace d6 := (HOw6.out.cells.1 _ _ (by omega) (by omega)).trans d6
    have hlw6 : WB.heap.size ≤ w6.heap.size := HOw6.out.le
    have hyw6 : w5.heap.size < w6.heap.size := by omega
    clear hbkl hbvl
    have y0 : w6.cell? ⟨w5.heap.size, 0, none⟩ = some (.slice q1 n c1) := HYw6.out.cell 0
    have y1 : w6.cell? ⟨w5.heap.size, 1, none⟩ = some (.slice q2 n c2) := HYw6.out.cell 1
    have hEw7 : Ext w6 (w6.alloc (.cells #[.int .i64 xk, .int .i64 xn, .string xs] 34)).drew := ((Ext.refl w6).alloc _).drew
    obtain ⟨vw7, w7, rw7, aw7⟩ := app_val (w6.alloc (.cells #[.int .i64 xk, .int .i64 xn, .string xs] 34)).drew 42 WB.heap.size w6.heap.size _ _ _ _ ⟨xk, xn, xs⟩ ((Blk.new w6 34 _).drew) ((H2w6.out).ext hEw7) (by rw [List.length_map, ← HNN.out]; omega)
    have HBw7 : Blk w7 (w5.heap.size) 91 #[.slice q1 n c1, .slice q2 n c2] := (aw7.low _ (by omega)).trans (HYw6.out.ext hEw7)
    have HOw7 : Only (w5.heap.size) WB w7 := aw7.only (fun z hz => ((H2w6.out).k.lt z hz).1) (HOw6.out.ext hEw7) (Nat.le_refl _)
    obtain ⟨qw7, cw7, ew7⟩ := aw7.two.k.at0.slice
    rw [List.length_append, List.length_map, ← HNN.out] at ew7
    replace ew7 : vw7 = .slice qw7 (n + 1) cw7 := ew7
    subst ew7
    have t0 : w7.cell? ⟨w5.heap.size, 0, none⟩ = some (.slice q1 n c1) := HBw7.cell 0
    have t1 : w7.frozen? ⟨w5.heap.size, 0, none⟩ = false := HBw7.frozen 0
    have HRw7 := Lib.hid rw7
    have HAw7 := Lib.hid aw7
    have HBhw7 := Lib.hid HBw7
    have HOhw7 := Lib.hid HOw7
    clear rw7 aw7 HBw7 HOw7 hEw7
    go_cut [79] (fun _ wx => ∃ q c, Hid (Only (w5.heap.size) WB wx ∧ Blk wx (w5.heap.size) 91 #[.slice q (n + 1) c, .slice q2 n c2] ∧ Two wx WB.heap.size (.slice q (n + 1) c) (D.map (·.1) ++ [⟨xk, xn, xs⟩]) (.slice q2 n c2) (D.map (·.2))))
    case first =>
     go_region_law (refine step_append_run rfl _ _ 42 rfl _ _ _ _ rfl rfl HRw7.out ?_)
     all_goals (
      go_wp2_with fail
      go_meet
      exact ⟨_, _, Lib.hid ⟨HOhw7.out.setCell (.inl rfl) _, HBhw7.out.set_ 0 _, (HAw7.out.two).set (p := ⟨w5.heap.size, 0, none⟩) (by show w5.heap.size < _; omega) (.slice qw7 (n + 1) cw7)⟩⟩)
    case rest =>
     obtain ⟨qw8, cw8, HCw8⟩ := hcut
     have HOw8 := Lib.hid HCw8.out.1
     have HYw8 := Lib.hid HCw8.out.2.1
     have H2w8 := Lib.hid HCw8.out.2.2
     clear y0 y1 b0 b1 b2 b3 b4 d1 d2 d3 d4 d5 d6 t0 t1 HRw7 HCw8 HOhw7 HBhw7 HAw7 HOw6 HYw6 H2w6 hlw6 hyw6
     clear w6 w7
     rename World => w8
     obtain ⟨b0, b1, b2, b3, b4, _⟩ := B0.out
     obtain ⟨hbkl, hbvl, d1, d2, d3, d4, d5, d6⟩ := DD.out
     replace b0 := (HOw8.out.cells.1 _ _ (by omega) (by omega)).trans b0
     replace b1 := (HOw8.out.cells.1 _ _ (by omega) (by omega)).trans b1
     replace b2 := (HOw8.out.cells.1 _ _ (by omega) (by omega)).trans b2
     replace b3 := (HOw8.out.cells.1 _ _ (by omega) (by omega)).trans b3
     replace b4 := (HOw8.out.cells.1 _ _ (by omega) (by omega)).trans b4
     replace d1 := (HOw8.out.cells.1 _ _ (by omega) (by omega)).trans d1
     replace d2 := (HOw8.out.cells.1 _ _ (by omega) (by omega)).trans d2
     replace d3 := (HOw8.out.cells.1 _ _ (by omega) (by omega)).trans d3
     replace d4 := (HOw8.out.cells.1 _ _ (by omega) (by omega)).trans d4
     replace d5 := (HOw8.out.cells.1 _ _ (by omega) (by omega)).trans d5
     replace d6 := (HOw8.out.cells.1 _ _ (by omega) (by omega)).trans d6
     have hlw8 : WB.heap.size ≤ w8.heap.size := HOw8.out.le
     have hyw8 : w5.heap.size < w8.heap.size := by omega
     clear hbkl hbvl
     have y0 : w8.cell? ⟨w5.heap.size, 0, none⟩ = some (.slice qw8 (n + 1) cw8) := HYw8.out.cell 0
     have y1 : w8.cell? ⟨w5.heap.size, 1, none⟩ = some (.slice q2 n c2) := HYw8.out.cell 1
     go_upto_region 21 with (fail)
     have hEw9 : Ext w8 (w8.alloc (.cells #[.int .i64 yk, .int .i64 yn, .string ys] 34)).drew := ((Ext.refl w8).alloc _).drew
     obtain ⟨vw9, w9, rw9, aw9⟩ := app_val (w8.alloc (.cells #[.int .i64 yk, .int .i64 yn, .string ys] 34)).drew 42 WB.heap.size w8.heap.size _ _ _ _ ⟨yk, yn, ys⟩ ((Blk.new w8 34 _).drew) ((H2w8.out.swap).ext hEw9) (by rw [List.length_map, ← HNN.out]; omega)
     have HBw9 : Blk w9 (w5.heap.size) 91 #[.slice qw8 (n + 1) cw8, .slice q2 n c2] := (aw9.low _ (by omega)).trans (HYw8.out.ext hEw9)
     have HOw9 : Only (w5.heap.size) WB w9 := aw9.only (fun z hz => ((H2w8.out.swap).k.lt z hz).1) (HOw8.out.ext hEw9) (Nat.le_refl _)
     obtain ⟨qw9, cw9, ew9⟩ := aw9.two.k.at0.slice
     rw [List.length_append, List.length_map, ← HNN.out] at ew9
     replace ew9 : vw9 = .slice qw9 (n + 1) cw9 := ew9
     subst ew9
     have t0 : w9.cell? ⟨w5.heap.size, 1, none⟩ = some (.slice q2 n c2) := HBw9.cell 1
     have t1 : w9.frozen? ⟨w5.heap.size, 1, none⟩ = false := HBw9.frozen 1
     have HRw9 := Lib.hid rw9
     have HAw9 := Lib.hid aw9
     have HBhw9 := Lib.hid HBw9
     have HOhw9 := Lib.hid HOw9
     clear rw9 aw9 HBw9 HOw9 hEw9
     have HOw10 : Hid (Only (w5.heap.size) WB (w9.setCell ⟨w5.heap.size, 1, none⟩ (.slice qw9 (n + 1) cw9))) := Lib.hid (HOhw9.out.setCell (.inl rfl) _)
     have HYw10 : Hid (Blk (w9.setCell ⟨w5.heap.size, 1, none⟩ (.slice qw9 (n + 1) cw9)) (w5.heap.size) 91 #[.slice qw8 (n + 1) cw8, .slice qw9 (n + 1) cw9]) := Lib.hid (HBhw9.out.set_ 1 _)
     have H2w10 := Lib.hid ((HAw9.out.two.swap).set (p := ⟨w5.heap.size, 1, none⟩) (by show w5.heap.size < _; omega) (.slice qw9 (n + 1) cw9))
     go_region_law (refine step_append_run rfl _ _ 42 rfl _ _ _ _ rfl rfl HRw9.out ?_)
     clear y0 y1 b0 b1 b2 b3 b4 d1 d2 d3 d4 d5 d6 t0 t1 HRw9
     all_goals (
      go_wp2_with fail
      go_roundw
      case rel => exact ⟨j + 1, _, _, by go_num, by omega, Lib.hid ⟨HOw10.out, HYw10.out, by
       rw [HDT.out, if_neg HQ.out, List.map_append, List.map_append]
       exact H2w10.out⟩⟩
      case measure => simp [intOf]; omega)
  ·obtain rfl : j = L.length := by omega
   have HO := Lib.hid HW.out.1
   have HY := Lib.hid HW.out.2.1
   have H2 := Lib.hid HW.out.2.2
   rw [List.take_length] at H2
   clear HW hge hj
   have HTR := Lib.hid (L1a)
   clear L1a
   obtain ⟨D, hD⟩ : ∃ D, D = drop1 L ⟨kk, kn, ks⟩ := ⟨_, rfl⟩
   rw [← hD] at H2
   have hDl : D.length ≤ L.length := by rw [hD]; exact List.length_filter_le _ _
   have HD := Lib.hid hD
   clear hD
   obtain ⟨q1, c1, e1⟩ := H2.out.k.at0.slice
   obtain ⟨q2, c2, e2⟩ := H2.out.v.at0.slice
   rw [List.length_map] at e1 e2
   subst e1 e2
   obtain ⟨n, hn⟩ : ∃ n, n = D.length := ⟨_, rfl⟩
   rw [← hn] at HY H2 hDl
   have HNN := Lib.hid hn
   clear hn
   obtain ⟨b0, b1, b2, b3, b4, b5, b6, b7, b8⟩ := B0.out
   replace b0 := (HO.out.cells.1 _ _ (by omega) (by omega)).trans b0
   replace b2 := (HO.out.cells.1 _ _ (by omega) (by omega)).trans b2
   replace b3 := (HO.out.cells.1 _ _ (by omega) (by omega)).trans b3
   replace b4 := (HO.out.cells.1 _ _ (by omega) (by omega)).trans b4
   replace b5 := (HO.out.cells.1 _ _ (by omega) (by omega)).trans b5
   replace b6 := (HO.out.cells.1 _ _ (by omega) (by omega)).trans b6
   replace b7 := (HO.out.cells.1 _ _ (by omega) (by omega)).trans b7
   replace b8 := (HO.out.cells.1 _ _ (by omega) (by omega)).trans b8
   clear b1
   have hlwr : WB.heap.size ≤ wr.heap.size := HO.out.le
   have hywr : w5.heap.size < wr.heap.size := by omega
   have y0 : wr.cell? ⟨w5.heap.size, 0, none⟩ = some (.slice q1 n c1) := HY.out.cell 0
   have y1 : wr.cell? ⟨w5.heap.size, 1, none⟩ = some (.slice q2 n c2) := HY.out.cell 1
   have HOwr := Lib.hid HO.out
   have HYwr := Lib.hid HY.out
   have H2wr := Lib.hid H2.out
   have hEv7 : Ext wr (wr.alloc (.cells #[.int .i64 kk, .int .i64 kn, .string ks] 34)) := (Ext.refl wr).alloc _
   obtain ⟨vv7, v7, rv7, av7⟩ := app_val (wr.alloc (.cells #[.int .i64 kk, .int .i64 kn, .string ks] 34)) 42 WB.heap.size wr.heap.size _ _ _ _ ⟨kk, kn, ks⟩ (Blk.new wr 34 _) ((H2wr.out).ext hEv7) (by rw [List.length_map, ← HNN.out]; omega)
   have HBv7 : Blk v7 (w5.heap.size) 91 #[.slice q1 n c1, .slice q2 n c2] := (av7.low _ (by omega)).trans (HYwr.out.ext hEv7)
   have HOv7 : Only (w5.heap.size) WB v7 := av7.only (fun z hz => ((H2wr.out).k.lt z hz).1) (HOwr.out.ext hEv7) (Nat.le_refl _)
   obtain ⟨qv7, cv7, ev7⟩ := av7.two.k.at0.slice
   rw [List.length_append, List.length_map, ← HNN.out] at ev7
   replace ev7 : vv7 = .slice qv7 (n + 1) cv7 := ev7
   subst ev7
   have t0 : v7.cell? ⟨w5.heap.size, 0, none⟩ = some (.slice q1 n c1) := HBv7.cell 0
   have t1 : v7.frozen? ⟨w5.heap.size, 0, none⟩ = false := HBv7.frozen 0
   have HRv7 := Lib.hid rv7
   have HOv8 : Hid (Only (w5.heap.size) WB (v7.setCell ⟨w5.heap.size, 0, none⟩ (.slice qv7 (n + 1) cv7))) := Lib.hid (HOv7.setCell (.inl rfl) _)
   have HYv8 : Hid (Blk (v7.setCell ⟨w5.heap.size, 0, none⟩ (.slice qv7 (n + 1) cv7)) (w5.heap.size) 91 #[.slice qv7 (n + 1) cv7, .slice q2 n c2]) := Lib.hid (HBv7.set_ 0 _)
   have HAv7 := Lib.hid av7
   have H2v8 := Lib.hid ((HAv7.out.two).set (p := ⟨w5.heap.size, 0, none⟩) (by show w5.heap.size < _; omega) (.slice qv7 (n + 1) cv7))
   clear rv7 av7 HBv7 HOv7 hEv7 HAv7
   go_upto_region 24 with (at_builtin; refine wpList_append_runs rfl _ _ 42 rfl _ _ _ _ rfl rfl HRv7.out ?_)
   clear y0 y1 b0 b2 b3 b4 b5 b6 b7 b8 t0 t1 HRv7
   generalize v7.setCell ⟨w5.heap.size, 0, none⟩ (.slice qv7 (n + 1) cv7) = v8 at *
   obtain ⟨b0, b1, b2, b3, b4, b5, b6, b7, b8⟩ := B0.out
   replace b0 := (HOv8.out.cells.1 _ _ (by omega) (by omega)).trans b0
   replace b2 := (HOv8.out.cells.1 _ _ (by omega) (by omega)).trans b2
   replace b3 := (HOv8.out.cells.1 _ _ (by omega) (by omega)).trans b3
   replace b4 := (HOv8.out.cells.1 _ _ (by omega) (by omega)).trans b4
   replace b5 := (HOv8.out.cells.1 _ _ (by omega) (by omega)).trans b5
   replace b6 := (HOv8.out.cells.1 _ _ (by omega) (by omega)).trans b6
   replace b7 := (HOv8.out.cells.1 _ _ (by omega) (by omega)).trans b7
   replace b8 := (HOv8.out.cells.1 _ _ (by omega) (by omega)).trans b8
   clear b1
   have hlv8 : WB.heap.size ≤ v8.heap.size := HOv8.out.le
   have hyv8 : w5.heap.size < v8.heap.size := by omega
   have y0 : v8.cell? ⟨w5.heap.size, 0, none⟩ = some (.slice qv7 (n + 1) cv7) := HYv8.out.cell 0
   have y1 : v8.cell? ⟨w5.heap.size, 1, none⟩ = some (.slice q2 n c2) := HYv8.out.cell 1
   have hEv9 : Ext v8 (v8.alloc (.cells #[.int .i64 vk, .int .i64 vn, .string vs] 34)) := (Ext.refl v8).alloc _
   obtain ⟨vv9, v9, rv9, av9⟩ := app_val (v8.alloc (.cells #[.int .i64 vk, .int .i64 vn, .string vs] 34)) 42 WB.heap.size v8.heap.size _ _ _ _ ⟨vk, vn, vs⟩ (Blk.new v8 34 _) ((H2v8.out.swap).ext hEv9) (by rw [List.length_map, ← HNN.out]; omega)
   have HBv9 : Blk v9 (w5.heap.size) 91 #[.slice qv7 (n + 1) cv7, .slice q2 n c2] := (av9.low _ (by omega)).trans (HYv8.out.ext hEv9)
   have HOv9 : Only (w5.heap.size) WB v9 := av9.only (fun z hz => ((H2v8.out.swap).k.lt z hz).1) (HOv8.out.ext hEv9) (Nat.le_refl _)
   obtain ⟨qv9, cv9, ev9⟩ := av9.two.k.at0.slice
   rw [List.length_append, List.length_map, ← HNN.out] at ev9
   replace ev9 : vv9 = .slice qv9 (n + 1) cv9 := ev9
   subst ev9
   have t0 : v9.cell? ⟨w5.heap.size, 1, none⟩ = some (.slice q2 n c2) := HBv9.cell 1
   have t1 : v9.frozen? ⟨w5.heap.size, 1, none⟩ = false := HBv9.frozen 1
   have HRv9 := Lib.hid rv9
   have HOv10 : Hid (Only (w5.heap.size) WB (v9.setCell ⟨w5.heap.size, 1, none⟩ (.slice qv9 (n + 1) cv9))) := Lib.hid (HOv9.setCell (.inl rfl) _)
   have HYv10 : Hid (Blk (v9.setCell ⟨w5.heap.size, 1, none⟩ (.slice qv9 (n + 1) cv9)) (w5.heap.size) 91 #[.slice qv7 (n + 1) cv7, .slice qv9 (n + 1) cv9]) := Lib.hid (HBv9.set_ 1 _)
   have HAv9 := Lib.hid av9
   have H2v10 := Lib.hid ((HAv9.out.two.swap).set (p := ⟨w5.heap.size, 1, none⟩) (by show w5.heap.size < _; omega) (.slice qv9 (n + 1) cv9))
   clear rv9 av9 HBv9 HOv9 hEv9 HAv9
   go_upto_region 25 with (at_builtin; refine wpList_append_runs rfl _ _ 42 rfl _ _ _ _ rfl rfl HRv9.out ?_)
   clear y0 y1 b0 b2 b3 b4 b5 b6 b7 b8 t0 t1 HRv9
   generalize v9.setCell ⟨w5.heap.size, 1, none⟩ (.slice qv9 (n + 1) cv9) = v10 at *
   obtain ⟨b0, b1, b2, b3, b4, b5, b6, b7, b8⟩ := B0.out
   replace b0 := (HOv10.out.cells.1 _ _ (by omega) (by omega)).trans b0
   replace b2 := (HOv10.out.cells.1 _ _ (by omega) (by omega)).trans b2
   replace b3 := (HOv10.out.cells.1 _ _ (by omega) (by omega)).trans b3
   replace b4 := (HOv10.out.cells.1 _ _ (by omega) (by omega)).trans b4
   replace b5 := (HOv10.out.cells.1 _ _ (by omega) (by omega)).trans b5
   replace b6 := (HOv10.out.cells.1 _ _ (by omega) (by omega)).trans b6
   replace b7 := (HOv10.out.cells.1 _ _ (by omega) (by omega)).trans b7
   replace b8 := (HOv10.out.cells.1 _ _ (by omega) (by omega)).trans b8
   clear b1
   have hlv10 : WB.heap.size ≤ v10.heap.size := HOv10.out.le
   have hyv10 : w5.heap.size < v10.heap.size := by omega
   have y0 : v10.cell? ⟨w5.heap.size, 0, none⟩ = some (.slice qv7 (n + 1) cv7) := HYv10.out.cell 0
   have y1 : v10.cell? ⟨w5.heap.size, 1, none⟩ = some (.slice qv9 (n + 1) cv9) := HYv10.out.cell 1
   have HZ := Lib.hid (AH.out.onlyNew ((Only.of_ext HEB.out).trans HOv10.out) HYL.out)
   obtain ⟨sa, sb, s1, s2, s3, s4⟩ := HZ.out.slot o5 E0.out
   have s5 := s4 (i * 2)
   have s6 := s4 (i * 2 + 1)
   have hb1 : (i : Int) < (H.tabs.length : Int) := by omega
   go_upto_region 25 with (fail)
   clear s4
   have n1 : ¬ gb = w5.heap.size := by omega
   have n2 : ¬ gb = g := fun e => HZ.out.hrow (by rw [E0.out, e]; rfl)
   go_still_tail 7, (by kernel_rfl)
   change wpList _ _ _ _ _ (World.drew v10)
   have HZd := Lib.hid (HZ.out.ext (Ext.refl v10).drew)
   have H2d := Lib.hid (H2v10.out.ext (Ext.refl v10).drew)
   have HOd := Lib.hid (HOv10.out.ext (Ext.refl v10).drew)
   replace s1 : (World.drew v10).cell? _ = _ := s1
   replace s2 : (World.drew v10).cell? _ = _ := s2
   replace s5 : (World.drew v10).frozen? _ = _ := s5
   replace s6 : (World.drew v10).frozen? _ = _ := s6
   clear b0 b2 b3 b4 b5 b6 b7 b8 y0 y1 HZ s3
   generalize World.drew v10 = wd at *
   go_wp2_with fail
   go_ret
   refine ⟨rfl, ?_, ?_⟩
   ·have hs := HS.out
    simp only [Int.toNat_natCast] at hs
    rw [hs]
    exact HZd.out.at_row o5 E0.out _ _ (D ++ [((⟨kk, kn, ks⟩ : Vl), (⟨vk, vn, vs⟩ : Vl))]) _ (by rw [HD.out]; unfold tput; rw [if_neg HV0.out]; exact HTR.out.put HTb.out.once _ _) (by have := H2d.out.k.at0; rw [List.map_append]; exact this) (by have := H2d.out.v.at0; rw [List.map_append]; exact this) HP.out
   ·exact (((AT.out.transn (Touch.only (F := (· = w5.heap.size)) ((Only.of_ext HEB.out).trans HOd.out) rfl) (fun x hx => .inr (by omega))).setg (.inr (by rw [E0.out]; rfl)) _).setg (.inr (by rw [E0.out]; rfl)) _)
end Go.Proofs.YtlfihdcgbhdajaaGreatDoor
