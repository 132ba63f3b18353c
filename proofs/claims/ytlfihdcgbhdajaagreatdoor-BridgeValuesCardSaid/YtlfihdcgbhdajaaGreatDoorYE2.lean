/- The document's value of a list. The document's Value. -/
import Derived.Test.YtlfihdcgbhdajaaGreatDoorYE1
import Derived.Test.YtlfihdcgbhdajaaGreatDoorYA6
import Derived.Deep.RegionHeld3
import Derived.Test.YtlfihdcgbhdajaaGreatDoorYBwJ
import Derived.Test.YtlfihdcgbhdajaaGreatDoorYC1
namespace Go.Proofs.YtlfihdcgbhdajaaGreatDoor
open Go.RowKit
set_option linter.unusedVariables false
set_option linter.unusedSimpArgs false

section
variable {w w' : World} {g : Nat} {tv tv' : Value} {H' : Hp}
theorem ListAt.rstep {D : Nat} {v : Value} {l : List Rep} (h : ListAt (fun b => b < w.heap.size ∧ ¬ RFoot g tv b) w D v l) (hs : RS w g tv w' tv' H') : ListAt (fun b => b < w'.heap.size ∧ ¬ RFoot g tv' b) w' D v l :=
 h.keep (fun b o x hb hc => (hs.touch.cells.1 b o hb.1 hb.2).trans hc) (fun b hlt hb => ⟨Nat.lt_of_lt_of_le hb.1 hs.touch.size, hs.notin hb.1 hb.2⟩)
end
def RvOk (D : Nat) : Prop := ∀ (w : World) (g : Nat) (tv : Value) (H : Hp), RHeapIn w g tv H → ∀ (x : Rep) (q : Option Addr) (c : Nat),
 H.tabs.length + 1 + itR x ≤ 1000000000 → txR x ≤ 1048576 → i64R x → ListAt (fun b => b < w.heap.size ∧ ¬ RFoot g tv b) w D (.slice q x.l.length c) x.l →
  Calls Tryz.prog 38 #[.pointer (some ⟨g, 0, none⟩), .agg #[.int .i64 x.k, .int .i64 x.n, .string x.s, .slice q x.l.length c]] w (RvE w g tv (valP H x))
set_option maxRecDepth 100000 in
set_option maxHeartbeats 4000000 in
theorem rlist_do (D : Nat) (w : World) (g : Nat) (tv : Value) (H : Hp) (h : RHeapIn w g tv H) (n : Int) (s : ByteArray) (l : List Rep) (q : Option Addr) (c : Nat) (IH : 0 < l.length → RvOk (D - 1))
  (hlen : H.tabs.length + 1 + (l.length + itL l) ≤ 1000000000) (htx : txL l ≤ 1048576) (h6 : i64L l) (hv : ListAt (fun b => b < w.heap.size ∧ ¬ RFoot g tv b) w D (.slice q l.length c) l) :
  Calls Tryz.prog 38 #[.pointer (some ⟨g, 0, none⟩), .agg #[.int .i64 5, .int .i64 n, .string s, .slice q l.length c]] w
   (RvE w g tv (if tabW H = sNone then ((valsP (tabH H) (tabV H) 0 l).1, if (valsP (tabH H) (tabV H) 0 l).1 = sNone then tabV H else Vl.zero, (valsP (tabH H) (tabV H) 0 l).2) else (tabW H, Vl.zero, tabH H))) := by
 have HE := Lib.hid (((Ext.refl w).alloc (.cells #[.int .i64 5, .int .i64 n, .string s, .slice q l.length c] 25)).alloc (.cells #[.int .i64 0, .int .i64 0, .string ⟨#[]⟩] 34))
 have HB : Hid (Blk ((w.alloc (.cells #[.int .i64 5, .int .i64 n, .string s, .slice q l.length c] 25)).alloc (.cells #[.int .i64 0, .int .i64 0, .string ⟨#[]⟩] 34)) (w.heap.size + 1) 34 zcells) := Lib.hid (by
  have := Blk.new (w.alloc (.cells #[.int .i64 5, .int .i64 n, .string s, .slice q l.length c] 25)) 34 zcells
  rwa [size_alloc] at this)
 have HA : Hid (Blk ((w.alloc (.cells #[.int .i64 5, .int .i64 n, .string s, .slice q l.length c] 25)).alloc (.cells #[.int .i64 0, .int .i64 0, .string ⟨#[]⟩] 34)) w.heap.size 25 #[.int .i64 5, .int .i64 n, .string s, .slice q l.length c]) := Lib.hid ((Blk.new w _ _).alloc _)
 have HI := Lib.hid (h.ext HE.out)
 have NB : Hid (¬ RFoot g tv (w.heap.size + 1)) := Lib.hid (fun hx => by have := h.low hx; omega)
 have NA : Hid (¬ RFoot g tv w.heap.size) := Lib.hid (fun hx => by have := h.low hx; omega)
 have HV := Lib.hid ((hv.ext HE.out).keep (fun _ _ _ _ hc => hc) (fun b hlt (hb : b < w.heap.size ∧ _) => (⟨hlt, hb.2⟩ : b < _ ∧ ¬ RFoot g tv b)))
 obtain ⟨r, hr⟩ : ∃ r, ((if tabW H = sNone then ((valsP (tabH H) (tabV H) 0 l).1, if (valsP (tabH H) (tabV H) 0 l).1 = sNone then tabV H else Vl.zero, (valsP (tabH H) (tabV H) 0 l).2) else (tabW H, Vl.zero, tabH H)) : Br3) = r := ⟨_, rfl⟩
 rw [hr]
 have HR := Lib.hid hr
 obtain ⟨tw, htw⟩ : ∃ tw, tabW H = tw := ⟨_, rfl⟩
 have hc := fun (W : World) (hW : RHeapIn W g tv H) => rtable_step g tv H W hW (by omega)
 rw [htw] at hc
 have HC0 := Lib.hid hc
 have HTW := Lib.hid htw
 have HL : Hid ((tabH H).tabs.length + l.length + itL l ≤ 1000000000) := Lib.hid (by have := tabH_len H; omega)
 have HIH := Lib.hid IH
 have H6 := Lib.hid h6
 have HTX := Lib.hid htx
 have HMX : Hid (l.length ≤ 1000000000) := Lib.hid (by omega)
 have hq : sNone.toList = [] := sNone_list
 clear h hc htw hr hv IH h6 htx hlen
 go_enter Tryz.func38, Tryz.ntmps38
 go_wp2_with fail
 refine (HC0.out _ HI.out).mono ?_
 rintro e w1 ⟨rfl, tv1, s1⟩
 obtain ⟨t, ht⟩ : ∃ t, tabV H = t := ⟨_, rfl⟩
 have HT := Lib.hid ht
 rw [ht]
 clear ht
 obtain ⟨tk, tn, ts⟩ := t
 have e8 := (Ext.refl w1).alloc (.cells #[.int .i64 tk, .int .i64 tn, .string ts] 34)
 have S1 := Lib.hid (RS.ext s1 e8)
 have T6 := Lib.hid (Blk.new w1 34 #[.int .i64 tk, .int .i64 tn, .string ts])
 have N6 : Hid (¬ RFoot g tv1 w1.heap.size) := Lib.hid (fun hx => by have := s1.heap.low hx; omega)
 have YB1 := Lib.hid (HB.out.rstep s1 NB.out)
 have SS1 := Lib.hid (RS.pre HE.out s1)
 clear s1 e8
 rcases Decidable.em (tw = sNone) with hs | hs
 rotate_left
 ·obtain ⟨z0, z1, z2, y0, y1, y2⟩ := three YB1.out
  have hlt := YB1.out.lt
  have hq2 := str_ne_empty hs
  have hq3 := ne_list hs
  go_wp2_with fail
  have hr2 : r = (tw, Vl.zero, tabH H) := by
   rw [← HR.out, HTW.out, if_neg hs]
  exact bodyPost_ret (v := .tuple #[Vl.zero.v, .string tw]) (by simp [results, Tryz.results38, go_sem, Vl.zero, sNone, *]) rfl (RvE.mk hr2 ((SS1.out.zeroed YB1.out (Nat.le_succ _) _ _ _).ext ((Ext.refl _).alloc _)))
 subst hs
 have HR2 : Hid (((valsP (tabH H) ⟨tk, tn, ts⟩ 0 l).1, if (valsP (tabH H) ⟨tk, tn, ts⟩ 0 l).1 = sNone then ⟨tk, tn, ts⟩ else Vl.zero, (valsP (tabH H) ⟨tk, tn, ts⟩ 0 l).2) = r) := Lib.hid (by rw [← HR.out, if_pos HTW.out, HT.out])
 obtain ⟨R, hR⟩ : ∃ R, valsP (tabH H) ⟨tk, tn, ts⟩ 0 l = R := ⟨_, rfl⟩
 rw [hR] at HR2
 have HRR := Lib.hid hR
 clear HR HTW HC0 hR YB1 SS1
 go_wp2_with fail
 generalize w1.alloc (.cells #[.int .i64 tk, .int .i64 tn, .string ts] 34) = W at *
 obtain ⟨b6, hb6⟩ : ∃ b6, w1.heap.size = b6 := ⟨_, rfl⟩
 rw [hb6] at T6 N6 ⊢
 clear hb6
 have YB := Lib.hid (HB.out.rstep S1.out NB.out)
 have YA := Lib.hid (HA.out.rstep S1.out NA.out)
 have YV := Lib.hid (HV.out.rstep S1.out)
 have MB := Lib.hid (S1.out.notin HB.out.lt NB.out)
 have MA := Lib.hid (S1.out.notin HA.out.lt NA.out)
 have UALL := Lib.hid (fun wc tv' Hx (hs : RS W g tv1 wc tv' Hx) => RS.pre HE.out (S1.out.trans hs))
 have HSR := Lib.hid (RS.of_ext S1.out.heap (Ext.refl W))
 clear S1 HB HV HA HI NA NB HE HT
 go_loopw [8] (fun v8 wr => ∃ (j : Nat) (tv' : Value) (Hc : Hp), v8 = .int .i64 j ∧ j ≤ l.length ∧ Hid (RS W g tv1 wr tv' Hc) ∧ Hid (valsP Hc ⟨tk, tn, ts⟩ j (l.drop j) = R) ∧ Hid (Hc.tabs.length + (l.length - j) + itL (l.drop j) ≤ 1000000000)) (fun v8 _ => l.length - (intOf v8).toNat)
 case atStart => exact ⟨0, tv1, tabH H, rfl, Nat.zero_le _, HSR, Lib.hid HRR.out, Lib.hid (by simpa using HL.out)⟩
 case round =>
  obtain ⟨j, tv', Hc, rfl, hj, HS1, SPEC, LEN⟩ := hrel
  have d3 := (YA.out.rstep HS1.out MA.out).cell 3
  simp only [List.getElem?_toArray, List.getElem?_cons_zero, List.getElem?_cons_succ] at d3
  by_cases hlt : j < l.length
  ·obtain ⟨b, o, hqq, hok, x0, x1, x2, qy, cy, x3, LV⟩ := list_elem (YV.out.rstep HS1.out) hlt
   have H62 := Lib.hid (i64L_at H6.out j hlt)
   have HTX2 := Lib.hid (Nat.le_trans (txL_at l j hlt) HTX.out)
   have HIH2 := Lib.hid (HIH.out (by omega))
   have hd := List.drop_eq_getElem_cons hlt
   have hit := itL_drop l j hlt
   subst hqq
   generalize l[j] = y at *
   have SPEC1 := SPEC.out
   have LEN1 := LEN.out
   rw [hd, valsP_cons] at SPEC1
   rw [hit] at LEN1
   obtain ⟨p, hp⟩ : ∃ p, valP Hc y = p := ⟨_, rfl⟩
   have hpl := valP_len y Hc
   have hp6 := valP_in64 y Hc H62.out (by omega)
   rw [hp] at SPEC1 hpl hp6
   obtain ⟨yw, yv, yH⟩ := p
   simp only at SPEC1 hpl hp6
   obtain ⟨sw, hsw⟩ : ∃ sw, setW yH ⟨tk, tn, ts⟩ (iK ((j : Int) + 1)) yv = sw := ⟨_, rfl⟩
   rw [hsw] at SPEC1
   have HSW := Lib.hid hsw
   have SPEC2 : Hid (yw = sNone → sw = sNone → valsP (setH yH ⟨tk, tn, ts⟩ (iK ((j : Int) + 1)) yv) ⟨tk, tn, ts⟩ (j + 1) (l.drop (j + 1)) = R) := Lib.hid (fun h1 h2 => by rw [← SPEC1, if_pos h1, if_pos h2])
   have RL : Hid (¬ yw = sNone → r = (yw, Vl.zero, yH)) := Lib.hid (fun h1 => by
    have h2 : R = (yw, yH) := by rw [← SPEC1, if_neg h1]
    rw [← HR2.out, h2]
    simp only [if_neg h1])
   have RS2 : Hid (yw = sNone → ¬ sw = sNone → r = (sw, Vl.zero, setH yH ⟨tk, tn, ts⟩ (iK ((j : Int) + 1)) yv)) := Lib.hid (fun h0 h1 => by
    have h2 : R = (sw, setH yH ⟨tk, tn, ts⟩ (iK ((j : Int) + 1)) yv) := by rw [← SPEC1, if_pos h0, if_neg h1]
    rw [← HR2.out, h2]
    simp only [if_neg h1])
   have LEN2 : Hid ((setH yH ⟨tk, tn, ts⟩ (iK ((j : Int) + 1)) yv).tabs.length + (l.length - (j + 1)) + itL (l.drop (j + 1)) ≤ 1000000000) := Lib.hid (by rw [setH_len]; omega)
   have HM64 : yH.tabs.length ≤ 9223372036854775807 := by omega
   have HN1 : Hid (Hc.tabs.length + 1 + itR y ≤ 1000000000) := Lib.hid (by omega)
   have HP := Lib.hid hp
   have hmx := HMX.out
   have k0 : (0 : Int) ≤ (j : Int) := by omega
   have k1 : (j : Int) < (l.length : Int) := by omega
   have hwr : IntKind.i64.wrap ((j : Int) + 1) = (j : Int) + 1 := IntWalk.i64_in _ (by omega)
   have HJ : in64 ((j : Int) + 1) := ⟨by omega, by omega⟩
   have HSET := Lib.hid (fun (Q : World) tv'' (hZ : RHeapIn Q g tv'' yH) => rset_step g tv'' yH ⟨tk, tn, ts⟩ (iK ((j : Int) + 1)) yv Q hZ HM64 HJ hp6)
   rw [hsw] at HSET
   clear hd hit SPEC1 LEN1 hpl hp6 hsw SPEC LEN hok hp HM64 HJ
   go_wp2_with fail
   refine (HIH2.out wr g tv' Hc HS1.out.heap y qy cy HN1.out HTX2.out H62.out LV).mono ?_
   rw [HP.out]
   rintro e w4 ⟨rfl, tv4, s4⟩
   obtain ⟨yk, yn, ys⟩ := yv
   simp only at s4
   have e9 := (Ext.refl w4).alloc (.cells #[.int .i64 yk, .int .i64 yn, .string ys] 34)
   have S4 := Lib.hid (HS1.out.trans (s4.ext e9))
   have T9 := Lib.hid (Blk.new w4 34 #[.int .i64 yk, .int .i64 yn, .string ys])
   have N9 : Hid (¬ RFoot g tv4 w4.heap.size) := Lib.hid (fun hx => by have := s4.heap.low hx; omega)
   have SS4 := Lib.hid (HS1.out.trans s4)
   clear x0 x1 x2 x3 d3 LV s4 e9
   have hb64 : b6 < w4.heap.size := Nat.lt_of_lt_of_le T6.out.lt SS4.out.touch.size
   rcases Decidable.em (yw = sNone) with hs | hs
   rotate_left
   ·have YB4 := Lib.hid (YB.out.rstep SS4.out MB.out)
    obtain ⟨z0, z1, z2, y0, y1, y2⟩ := three YB4.out
    have hlt4 := YB4.out.lt
    have hq2 := str_ne_empty hs
    have hq3 := ne_list hs
    go_wp2_with fail
    exact bodyPost_ret (v := .tuple #[Vl.zero.v, .string yw]) (by simp [results, Tryz.results38, go_sem, Vl.zero, sNone, *]) rfl (RvE.mk (RL.out hs) (((UALL.out _ _ _ SS4.out).zeroed YB4.out (Nat.le_succ _) _ _ _).ext ((Ext.refl _).alloc _)))
   subst hs
   go_wp2_with fail
   generalize w4.alloc (.cells #[.int .i64 yk, .int .i64 yn, .string ys] 34) = W8 at *
   obtain ⟨b9, hb9⟩ : ∃ b9, w4.heap.size = b9 := ⟨_, rfl⟩
   rw [hb9] at T9 N9 hb64 ⊢
   clear hb9
   have Z6 := Lib.hid (T6.out.rstep S4.out N6.out)
   have M6 := Lib.hid (S4.out.notin T6.out.lt N6.out)
   have ZB := Lib.hid (YB.out.rstep S4.out MB.out)
   have OB := Lib.hid (S4.out.notin YB.out.lt MB.out)
   have KS : Hid (∀ wc tv'' Hx, RS W8 g tv4 wc tv'' Hx → (fun w' => w'.cell? ⟨b6, 0, none⟩ = some (.int .i64 tk) ∧ w'.cell? ⟨b6, 1, none⟩ = some (.int .i64 tn) ∧ w'.cell? ⟨b6, 2, none⟩ = some (.string ts) ∧ w'.cell? ⟨b9, 0, none⟩ = some (.int .i64 yk) ∧ w'.cell? ⟨b9, 1, none⟩ = some (.int .i64 yn) ∧ w'.cell? ⟨b9, 2, none⟩ = some (.string ys)) wc) := Lib.hid (fun wc tv'' Hx hs =>
    ⟨(Z6.out.rstep hs M6.out).cell 0, (Z6.out.rstep hs M6.out).cell 1, (Z6.out.rstep hs M6.out).cell 2, (T9.out.rstep hs N9.out).cell 0, (T9.out.rstep hs N9.out).cell 1, (T9.out.rstep hs N9.out).cell 2⟩)
   have RES : Hid (∀ wc tv'' Hx, RS W8 g tv4 wc tv'' Hx → Blk wc (w.heap.size + 1) 34 zcells) := Lib.hid (fun wc tv'' Hx hs => ZB.out.rstep hs OB.out)
   have UW : Hid (∀ wc tv'' Hx, RS W8 g tv4 wc tv'' Hx → RS W g tv1 wc tv'' Hx) := Lib.hid (fun wc tv'' Hx hs => S4.out.trans hs)
   have U0 := Lib.hid (RS.of_ext S4.out.heap (Ext.refl W8).drew)
   clear Z6 M6 HIH HIH2 HP HN1 HTX2 H62 RL HS1 HSR HRR HR2 HL H6 HTX SS4 S4 ZB OB
   refine wp_region_held_drew (S := fun w' => w'.cell? ⟨b6, 0, none⟩ = some (.int .i64 tk) ∧ w'.cell? ⟨b6, 1, none⟩ = some (.int .i64 tn) ∧ w'.cell? ⟨b6, 2, none⟩ = some (.string ts) ∧ w'.cell? ⟨b9, 0, none⟩ = some (.int .i64 yk) ∧ w'.cell? ⟨b9, 1, none⟩ = some (.int .i64 yn) ∧ w'.cell? ⟨b9, 2, none⟩ = some (.string ys)) (by kernel_rfl) (KS.out _ _ _ U0.out) (fun hHeld => ?_)
   have U := Lib.hid U0.out
   clear U0
   refine wpAnyH_take (i := 0) (v := ?_) rfl (by kernel_rfl) (by kernel_rfl) (by kernel_rfl) (fun _ _ _ h => h) (Or.inl ⟨by rfl, (by intro w hSw; (try dsimp only at hSw); go_simp; first | done | with_reducible rfl)⟩) (by assumption) ?_
   (try simp only [Act.put, List.setIfInBounds_toArray, List.set_cons_zero, List.set_cons_succ])
   refine wpAnyH_take (i := 1) (v := ?_) rfl (by kernel_rfl) (by kernel_rfl) (by kernel_rfl) (fun _ _ _ h => h) (Or.inl ⟨by rfl, (by intro w hSw; (try dsimp only at hSw); go_simp; first | done | with_reducible rfl)⟩) (by assumption) ?_
   (try simp only [Act.put, List.setIfInBounds_toArray, List.set_cons_zero, List.set_cons_succ])
   refine wpAnyH_take (i := 2) (v := ?_) rfl (by kernel_rfl) (by kernel_rfl) (by kernel_rfl) (fun _ _ _ h => h) (Or.inl ⟨by rfl, (by intro w hSw; (try dsimp only at hSw); go_simp; first | done | with_reducible rfl)⟩) (by assumption) ?_
   (try simp only [Act.put, List.setIfInBounds_toArray, List.set_cons_zero, List.set_cons_succ])
   refine wpAnyH_take (i := 3) (v := ?_) rfl (by kernel_rfl) (by kernel_rfl) (by kernel_rfl) (fun _ _ _ h => h) (Or.inl ⟨by rfl, (by intro w hSw; (try dsimp only at hSw); go_simp; first | done | with_reducible rfl)⟩) (by assumption) ?_
   (try simp only [Act.put, List.setIfInBounds_toArray, List.set_cons_zero, List.set_cons_succ])
   refine wpAnyH_take (i := 5) (v := ?_) rfl (by kernel_rfl) (by kernel_rfl) (by kernel_rfl) (fun _ _ _ h => h) (Or.inl ⟨by rfl, (by intro w hSw; (try dsimp only at hSw); go_simp; first | done | with_reducible rfl)⟩) (by assumption) ?_
   (try simp only [Act.put, List.setIfInBounds_toArray, List.set_cons_zero, List.set_cons_succ])
   refine wpAnyH_ready (rs := [4]) (by kernel_rfl) (by simp) ?_
   refine AllReadyH.cons rfl (fun K hK => ?_) ?_
   ·skip
    go_simp
    refine (rnum16 _ _).mono ?_
    rintro e w3 ⟨rfl, e3⟩
    replace U := Lib.hid (U.out.ext e3)
    clear e3
    clear hHeld
    refine hK.out _ _ (KS.out _ _ _ U.out) (fun hHeld => ?_)
    clear hK K
    (try simp only [Act.put, List.setIfInBounds_toArray, List.set_cons_zero, List.set_cons_succ])
    refine wpAnyH_ready (rs := [6]) (by kernel_rfl) (by simp) ?_
    refine AllReadyH.cons rfl (fun K hK => ?_) ?_
    ·skip
     go_simp
     refine (HSET.out _ _ U.out.heap).mono ?_
     rintro e w4 ⟨rfl, s4⟩
     replace U := Lib.hid (U.out.trans s4)
     clear s4
     clear hHeld
     refine hK.out _ _ (KS.out _ _ _ U.out) (fun hHeld => ?_)
     clear hK K
     (try simp only [Act.put, List.setIfInBounds_toArray, List.set_cons_zero, List.set_cons_succ])
     refine wpAnyH_take (i := 7) (v := ?_) rfl (by kernel_rfl) (by kernel_rfl) (by kernel_rfl) (fun _ _ _ h => h) (Or.inl ⟨by rfl, (by intro w hSw; (try dsimp only at hSw); go_simp; first | done | with_reducible rfl)⟩) (by assumption) ?_
     (try simp only [Act.put, List.setIfInBounds_toArray, List.set_cons_zero, List.set_cons_succ])
     refine wpAnyH_done (by kernel_rfl) ?_ _
     rcases Decidable.em (sw = sNone) with hs2 | hs2
     ·have NX := Lib.hid (SPEC2.out (by first | rfl | trivial) hs2)
      obtain rfl := hs2
      go_wp2_with fail
      go_roundw
      case rel => exact ⟨j + 1, _, _, rfl, by omega, Lib.hid (UW.out _ _ _ U.out), Lib.hid NX.out, LEN2⟩
      case measure => simp [intOf]; omega
     ·have Y1 := Lib.hid (RES.out _ _ _ U.out)
      have hq2 := str_ne_empty hs2
      have hq3 := ne_list hs2
      obtain ⟨z0, z1, z2, y0, y1, y2⟩ := three Y1.out
      have hlt := Y1.out.lt
      go_wp2_with fail
      exact bodyPost_ret (v := .tuple #[Vl.zero.v, .string sw]) (by simp [results, Tryz.results38, go_sem, Vl.zero, sNone, *]) rfl (RvE.mk (RS2.out (by first | rfl | trivial) hs2) ((UALL.out _ _ _ (UW.out _ _ _ U.out)).zeroed Y1.out (Nat.le_succ _) _ _ _))
    ·skip
     exact AllReadyH.nil
   ·skip
    exact AllReadyH.nil
  ·have hge : l.length ≤ j := by omega
   obtain rfl : j = l.length := by omega
   have RE : Hid (r = (sNone, ⟨tk, tn, ts⟩, Hc)) := Lib.hid (by
    have h1 := SPEC.out
    rw [List.drop_length] at h1
    unfold valsP at h1
    rw [← HR2.out, ← h1]
    simp)
   have YBB := Lib.hid (YB.out.rstep HS1.out MB.out)
   obtain ⟨z0, z1, z2, y0, y1, y2⟩ := three YBB.out
   have hltw := YBB.out.lt
   obtain ⟨x0, x1, x2, _, _, _⟩ := three (T6.out.rstep HS1.out N6.out)
   clear SPEC LEN hlt
   go_wp2_with fail
   exact bodyPost_ret (v := .tuple #[(⟨tk, tn, ts⟩ : Vl).v, .string sNone]) (by simp [results, Tryz.results38, go_sem, Vl.zero, sNone, *]) rfl (RvE.mk RE.out ((UALL.out _ _ _ HS1.out).zeroed YBB.out (Nat.le_succ _) _ _ _))
end Go.Proofs.YtlfihdcgbhdajaaGreatDoor
namespace Go.Proofs.YtlfihdcgbhdajaaGreatDoor
open Go.RowKit
set_option linter.unusedVariables false
set_option linter.unusedSimpArgs false

theorem valP_mk (H : Hp) (k n : Int) (s : ByteArray) (l : List Rep) : valP H (.mk k n s l) =
  (if k = 3 then (sNone, iK n, H)
  else if k = 4 then (if mkW H.cells H.spent s = sNone then (sNone, tK s, mkH H s) else (mkW H.cells H.spent s, Vl.zero, mkH H s))
  else if k = 1 then underP H sOk s
  else if k = 2 then underP H sErr s
  else if k = 5 then (if tabW H = sNone then ((valsP (tabH H) (tabV H) 0 l).1, if (valsP (tabH H) (tabV H) 0 l).1 = sNone then tabV H else Vl.zero, (valsP (tabH H) (tabV H) 0 l).2) else (tabW H, Vl.zero, tabH H))
  else (sNone, bV false, H)) := by
 conv => lhs; unfold valP
theorem rval_step (D : Nat) (IH : RvOk D) (w : World) (g : Nat) (tv : Value) (H : Hp) (h : RHeapIn w g tv H) (x : Rep) (q : Option Addr) (c : Nat) (h1 : H.tabs.length + 1 + itR x ≤ 1000000000) (h2 : txR x ≤ 1048576) (h3 : i64R x)
  (hl : ListAt (fun b => b < w.heap.size ∧ ¬ RFoot g tv b) w (D + 1) (.slice q x.l.length c) x.l) :
  Calls Tryz.prog 38 #[.pointer (some ⟨g, 0, none⟩), .agg #[.int .i64 x.k, .int .i64 x.n, .string x.s, .slice q x.l.length c]] w (RvE w g tv (valP H x)) := by
 obtain ⟨k, n, s, l⟩ := x
 rw [valP_mk]
 simp only [itR, txR] at h1 h2
 simp only [i64R] at h3
 simp only [Rep.k, Rep.n, Rep.s, Rep.l] at hl ⊢
 have hz : s.size ≤ 9223372036854775807 := by omega
 by_cases k3 : k = 3
 ·subst k3
  rw [if_pos rfl]
  exact rval_3 g tv H w h n s q _ c
 rw [if_neg k3]
 by_cases k4 : k = 4
 ·subst k4
  rw [if_pos rfl]
  have e := mkV_is H.cells H.spent s
  have := rval_4 g tv H w h n s q l.length c hz
  split
  ·rename_i hw
   rw [if_pos hw] at e
   rwa [e, hw] at this
  ·rename_i hw
   rw [if_neg hw] at e
   rwa [e] at this
 rw [if_neg k4]
 by_cases k1 : k = 1
 ·subst k1
  rw [if_pos rfl]
  exact rval_1 g tv H w h (by omega) n s q _ c hz
 rw [if_neg k1]
 by_cases k2 : k = 2
 ·subst k2
  rw [if_pos rfl]
  exact rval_2 g tv H w h (by omega) n s q _ c hz
 rw [if_neg k2]
 by_cases k5 : k = 5
 ·subst k5
  rw [if_pos rfl]
  exact rlist_do (D + 1) w g tv H h n s l q c (fun _ => IH) (by omega) (by omega) h3.2 hl
 rw [if_neg k5]
 exact rval_0 g tv H w h k k1 k2 k3 k4 k5 n s q _ c
theorem rval_all : ∀ D, RvOk D
 | 0 => fun w g tv H h x q c h1 h2 h3 hl => by
  have hl0 : x.l = [] := hl.1
  obtain ⟨k, n, s, l⟩ := x
  simp only [Rep.l] at hl0
  subst hl0
  rw [valP_mk]
  simp only [itR, txR] at h1 h2
  simp only [i64R] at h3
  simp only [Rep.k, Rep.n, Rep.s, Rep.l] at hl ⊢
  have hz : s.size ≤ 9223372036854775807 := by omega
  by_cases k3 : k = 3
  ·subst k3
   rw [if_pos rfl]
   exact rval_3 g tv H w h n s q _ c
  rw [if_neg k3]
  by_cases k4 : k = 4
  ·subst k4
   rw [if_pos rfl]
   have e := mkV_is H.cells H.spent s
   have := rval_4 g tv H w h n s q 0 c hz
   split
   ·rename_i hw
    rw [if_pos hw] at e
    rwa [e, hw] at this
   ·rename_i hw
    rw [if_neg hw] at e
    rwa [e] at this
  rw [if_neg k4]
  by_cases k1 : k = 1
  ·subst k1
   rw [if_pos rfl]
   exact rval_1 g tv H w h (by omega) n s q _ c hz
  rw [if_neg k1]
  by_cases k2 : k = 2
  ·subst k2
   rw [if_pos rfl]
   exact rval_2 g tv H w h (by omega) n s q _ c hz
  rw [if_neg k2]
  by_cases k5 : k = 5
  ·subst k5
   rw [if_pos rfl]
   exact rlist_do 0 w g tv H h n s [] q c (fun h0 => absurd h0 (by simp)) (by simp [itL]; omega) (by simp [txL]) h3.2 hl
  rw [if_neg k5]
  exact rval_0 g tv H w h k k1 k2 k3 k4 k5 n s q _ c
 | D + 1 => fun w g tv H h x q c h1 h2 h3 hl => rval_step D (rval_all D) w g tv H h x q c h1 h2 h3 hl
theorem ok_fine {x : Rep} (hI : itR x ≤ 65536) (hT : txR x ≤ 1048576) : repOkB x = fineR 100 x := by
 unfold repOkB layOk
 simp [hI, hT]
theorem underP_fails (H : Hp) (key s : ByteArray) (h : ¬ (underP H key s).1 = sNone) : (underP H key s).2.1 = Vl.zero := by
 unfold underP at h ⊢
 by_cases a : tabW H = sNone
 ·rw [if_pos a] at h ⊢
  by_cases b : mkW H.cells (tabH H).spent s = sNone
  ·rw [if_pos b] at h ⊢
   simp only at h ⊢
   by_cases c : setW (mkH (tabH H) s) (tabV H) (tK key) (tK s) = sNone
   ·rw [if_pos c] at h; exact absurd rfl h
   ·rw [if_neg c]
  ·rw [if_neg b]
 ·rw [if_neg a]
theorem valP_fails (x : Rep) (H : Hp) (h : ¬ (valP H x).1 = sNone) : valP H x = ((valP H x).1, Vl.zero, (valP H x).2.2) := by
 have : (valP H x).2.1 = Vl.zero := by
  obtain ⟨k, n, s, l⟩ := x
  rw [valP_mk] at h ⊢
  by_cases k3 : k = 3
  ·rw [if_pos k3] at h; exact absurd rfl h
  rw [if_neg k3] at h ⊢
  by_cases k4 : k = 4
  ·rw [if_pos k4] at h ⊢
   by_cases a : mkW H.cells H.spent s = sNone
   ·rw [if_pos a] at h; exact absurd rfl h
   ·rw [if_neg a]
  rw [if_neg k4] at h ⊢
  by_cases k1 : k = 1
  ·rw [if_pos k1] at h ⊢; exact underP_fails _ _ _ h
  rw [if_neg k1] at h ⊢
  by_cases k2 : k = 2
  ·rw [if_pos k2] at h ⊢; exact underP_fails _ _ _ h
  rw [if_neg k2] at h ⊢
  by_cases k5 : k = 5
  ·rw [if_pos k5] at h ⊢
   by_cases a : tabW H = sNone
   ·rw [if_pos a] at h ⊢
    simp only at h ⊢
    rw [if_neg h]
   ·rw [if_neg a]
  ·rw [if_neg k5] at h; exact absurd rfl h
 exact Prod.ext rfl (Prod.ext this rfl)
theorem valueR_is (H : Hp) (x : Rep) : valueR H x = if repOkB x = true then valP H x else (sReply, Vl.zero, H) := by
 unfold valueR
 split
 ·split
  ·rfl
  ·rename_i h; exact (valP_fails x H h).symm
 ·rfl
set_option maxRecDepth 100000 in
set_option maxHeartbeats 4000000 in
theorem rvalue_any (w : World) (g : Nat) (tv : Value) (H : Hp) (h : RHeapIn w g tv H) (x : Rep) (q : Option Addr) (c D : Nat) (hlen : H.tabs.length ≤ 900000000) (hI : itR x ≤ 65536) (hT : txR x ≤ 1048576) (h6 : i64R x)
  (hl : ListAt (fun b => b < w.heap.size ∧ ¬ RFoot g tv b) w D (.slice q x.l.length c) x.l) :
  Calls Tryz.prog 9 #[.pointer (some ⟨g, 0, none⟩), .agg #[.int .i64 x.k, .int .i64 x.n, .string x.s, .slice q x.l.length c]] w (RvE w g tv (valueR H x)) := by
 rw [valueR_is, ok_fine hI hT]
 have HE := Lib.hid (((Ext.refl w).alloc (.cells #[.int .i64 x.k, .int .i64 x.n, .string x.s, .slice q x.l.length c] 25)).alloc (.cells #[.int .i64 0, .int .i64 0, .string ⟨#[]⟩] 34))
 have HB : Hid (Blk ((w.alloc (.cells #[.int .i64 x.k, .int .i64 x.n, .string x.s, .slice q x.l.length c] 25)).alloc (.cells #[.int .i64 0, .int .i64 0, .string ⟨#[]⟩] 34)) (w.heap.size + 1) 34 zcells) := Lib.hid (by
  have := Blk.new (w.alloc (.cells #[.int .i64 x.k, .int .i64 x.n, .string x.s, .slice q x.l.length c] 25)) 34 zcells
  rwa [size_alloc] at this)
 have HA : Hid (Blk ((w.alloc (.cells #[.int .i64 x.k, .int .i64 x.n, .string x.s, .slice q x.l.length c] 25)).alloc (.cells #[.int .i64 0, .int .i64 0, .string ⟨#[]⟩] 34)) w.heap.size 25 #[.int .i64 x.k, .int .i64 x.n, .string x.s, .slice q x.l.length c]) := Lib.hid ((Blk.new w _ _).alloc _)
 have HI := Lib.hid (h.ext HE.out)
 have NB : Hid (¬ RFoot g tv (w.heap.size + 1)) := Lib.hid (fun hx => by have := h.low hx; omega)
 have HV := Lib.hid ((hl.ext HE.out).keep (fun _ _ _ _ hc => hc) (fun b hlt (hb : b < w.heap.size ∧ _) => (⟨hlt, hb.2⟩ : b < _ ∧ ¬ RFoot g tv b)))
 have cC := chkD_any D _ _ x q c HV.out hI hT
 have cV := fun (W : World) (he : Ext ((w.alloc (.cells #[.int .i64 x.k, .int .i64 x.n, .string x.s, .slice q x.l.length c] 25)).alloc (.cells #[.int .i64 0, .int .i64 0, .string ⟨#[]⟩] 34)) W) => rval_all D W g tv H (HI.out.ext he) x q c (by omega) hT h6 ((HV.out.ext he).keep (fun _ _ _ _ hc => hc) (fun b hlt (hb : b < _ ∧ _) => (⟨hlt, hb.2⟩ : b < _ ∧ ¬ RFoot g tv b)))
 generalize fineR 100 x = f at cC ⊢
 have CC := Lib.hid cC
 have CV := Lib.hid cV
 clear h hl cC cV h6 hI hT hlen
 cases f with
 | true =>
  rw [if_pos rfl] at CC ⊢
  obtain ⟨r, hr⟩ : ∃ r, valP H x = r := ⟨_, rfl⟩
  rw [hr] at CV ⊢
  go_enter Tryz.func9, Tryz.ntmps9
  go_wp2_with fail
  refine CC.out.mono ?_
  rintro e w1 ⟨rfl, e1⟩
  have YB := Lib.hid (HB.out.ext e1)
  have YA := HA.out.ext e1
  have EX := Lib.hid (HE.out.trans e1)
  have XI := Lib.hid (HI.out.ext e1)
  have a0 := YA.cell 0
  have a1 := YA.cell 1
  have a2 := YA.cell 2
  have a3 := YA.cell 3
  simp only [List.getElem?_toArray, List.getElem?_cons_zero, List.getElem?_cons_succ] at a0 a1 a2 a3
  have hla := YA.lt
  have CV1 := Lib.hid (CV.out _ e1)
  clear YA e1
  go_wp2_with fail
  refine CV1.out.mono ?_
  rintro e w2 ⟨rfl, tv2, s2⟩
  have YB2 := Lib.hid (YB.out.rstep s2 NB.out)
  have S2 := Lib.hid (RS.pre EX.out s2)
  obtain ⟨z0, z1, z2, y0, y1, y2⟩ := three YB2.out
  have hlt := YB2.out.lt
  clear s2 a0 a1 a2 a3 hla hr
  obtain ⟨rw, ⟨rk, rn, rs⟩, rH⟩ := r
  go_wp2_with fail
  exact bodyPost_ret (v := .tuple #[(⟨rk, rn, rs⟩ : Vl).v, .string rw]) (by simp [results, Tryz.results9, go_sem, *]) rfl (RvE.mk rfl (S2.out.zeroed YB2.out (Nat.le_succ _) _ _ _))
 | false =>
  rw [if_neg (by decide)] at CC ⊢
  clear CV
  go_enter Tryz.func9, Tryz.ntmps9
  go_wp2_with fail
  refine CC.out.mono ?_
  rintro e w1 ⟨rfl, e1⟩
  have YB := Lib.hid (HB.out.ext e1)
  have YA := HA.out.ext e1
  have EX := Lib.hid (HE.out.trans e1)
  have XI := Lib.hid (HI.out.ext e1)
  have a0 := YA.cell 0
  have a1 := YA.cell 1
  have a2 := YA.cell 2
  have a3 := YA.cell 3
  simp only [List.getElem?_toArray, List.getElem?_cons_zero, List.getElem?_cons_succ] at a0 a1 a2 a3
  have hla := YA.lt
  clear YA e1 a0 a1 a2 a3 hla
  obtain ⟨z0, z1, z2, y0, y1, y2⟩ := three YB.out
  have hlt := YB.out.lt
  go_wp2_with fail
  exact bodyPost_ret (v := .tuple #[Vl.zero.v, .string sReply]) (by simp [results, Tryz.results9, go_sem, Vl.zero, sNone, sReply, *]) rfl (RvE.mk rfl ((RS.pre EX.out (RS.of_ext XI.out (Ext.refl _))).zeroed YB.out (Nat.le_succ _) _ _ _))
end Go.Proofs.YtlfihdcgbhdajaaGreatDoor
