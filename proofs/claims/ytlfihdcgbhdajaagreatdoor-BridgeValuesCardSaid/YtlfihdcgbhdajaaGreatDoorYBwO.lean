/- A table's reply. -/
import Derived.Test.YtlfihdcgbhdajaaGreatDoorYBwN
import Derived.Test.YtlfihdcgbhdajaaGreatDoorYB4
import Derived.Deep.RegionHeld3
import Derived.Deep.DeepCutAuto
import Derived.BigQuiet
import Derived.Deep.RegionLaw
namespace Go.Proofs.YtlfihdcgbhdajaaGreatDoor
open Go.RowKit
set_option linter.unusedVariables false
set_option linter.unusedSimpArgs false

def ZB (w : World) (b : Nat) : Prop := Blk w b 34 #[.int .i64 0, .int .i64 0, .string ⟨#[]⟩]
theorem ZB.new {W w' : World} (b : Nat) (hb : b = W.heap.size) (h : Ext (W.alloc (.cells #[.int .i64 0, .int .i64 0, .string ⟨#[]⟩] 34)) w') : ZB w' b := by
 subst hb; exact (Blk.new W _ _).ext h
theorem ZB.newd {W w' : World} (b : Nat) (hb : b = W.heap.size) (h : Ext (World.drew (W.alloc (.cells #[.int .i64 0, .int .i64 0, .string ⟨#[]⟩] 34))) w') : ZB w' b := by
 subst hb; exact ((Blk.new W _ _).drew).ext h
theorem ZB.ext {w w' : World} {b : Nat} (h : ZB w b) (he : Ext w w') : ZB w' b := Blk.ext h he
theorem ZB.facts {w' : World} {b : Nat} (hB : ZB w' b) : b < w'.heap.size ∧ w'.cell? ⟨b, 0, none⟩ = some (.int .i64 0) ∧ w'.cell? ⟨b, 1, none⟩ = some (.int .i64 0) ∧ w'.cell? ⟨b, 2, none⟩ = some (.string ⟨#[]⟩) ∧
  w'.frozen? ⟨b, 0, none⟩ = false ∧ w'.frozen? ⟨b, 1, none⟩ = false ∧ w'.frozen? ⟨b, 2, none⟩ = false :=
 ⟨Blk.lt hB, Blk.cell hB 0, Blk.cell hB 1, Blk.cell hB 2, Blk.frozen hB 0, Blk.frozen hB 1, Blk.frozen hB 2⟩
def RepDo (d : Nat) : Prop := ∀ (w : World) (g : Nat) (tv : Value) (rs : List (Nat × Nat)) (H : Hp), HeapIn w g tv rs H → H.tabs.length ≤ 9223372036854775807 → ∀ (wb : Nat) (q : Room), QOk q → WAt w wb g q → ¬ Foot g tv rs wb → ∀ (v : Vl), in64 v.n →
 Calls Tryz.prog 49 #[.pointer (some ⟨wb, 0, none⟩), v.v, .int .i64 (d : Int)] w (BepE w wb g d (repP H d q v))
def subF (H : Hp) : Nat → Option (Room → Vl → RepX)
 | 0 => none
 | e + 1 => some (repP H e)
def listX : Except ByteArray (List Rep × Room) → RepX
 | .error e => .error e
 | .ok y => .ok (.mk 5 0 sNone y.1, y.2)
theorem Ext.frozen' {w w' : World} (h : Ext w w') {b o : Nat} (hb : b < w.heap.size) : w'.frozen? ⟨b, o, none⟩ = w.frozen? ⟨b, o, none⟩ := h.cells.2 b o hb
theorem getW_text {H : Hp} {v : Vl} (ho : ofW H v = sNone) {s : ByteArray} (hs : s.size ≤ 1048576) : getW H v (tK s) = sNone := by
 unfold getW
 rw [ck_tK hs]
 simp [ho, tK]
theorem getW_num {H : Hp} {v : Vl} (ho : ofW H v = sNone) (n : Int) : getW H v (iK n) = sNone := by
 unfold getW
 rw [ck_iN]
 simp [ho, iK]
set_option maxRecDepth 100000 in
set_option maxHeartbeats 4000000 in
theorem table_do (d : Nat) (IH : ∀ e, d = e + 1 → RepDo e) (w : World) (g : Nat) (tv : Value) (rs : List (Nat × Nat)) (H : Hp) (h : HeapIn w g tv rs H) (hlen : H.tabs.length ≤ 9223372036854775807) (wb : Nat) (q : Room) (hq : QOk q) (WA : WAt w wb g q) (nw : ¬ Foot g tv rs wb) (v : Vl) (hv : in64 v.n) (h4 : v.k = 4) (hd : d ≤ 1000) :
    Calls Tryz.prog 72 #[.pointer (some ⟨wb, 0, none⟩), v.v, .int .i64 (d : Int)] w (BepE w wb g d (tableP (subF H d) H q v)) := by
  have e0 : Ext w ((w.alloc (.cells #[.int .i64 v.k, .int .i64 v.n, .string v.s] 34)).alloc (.cells #[.int .i64 0, .int .i64 0, .string ⟨#[]⟩, .slice none 0 0] 25)) := ((Ext.refl w).alloc _).alloc _
  have HE := Lib.hid e0
  have B4 : Hid (Blk ((w.alloc (.cells #[.int .i64 v.k, .int .i64 v.n, .string v.s] 34)).alloc (.cells #[.int .i64 0, .int .i64 0, .string ⟨#[]⟩, .slice none 0 0] 25)) w.heap.size 34 #[.int .i64 v.k, .int .i64 v.n, .string v.s]) := Lib.hid ((Blk.new w _ _).alloc _)
  have B6 : Hid (Blk ((w.alloc (.cells #[.int .i64 v.k, .int .i64 v.n, .string v.s] 34)).alloc (.cells #[.int .i64 0, .int .i64 0, .string ⟨#[]⟩, .slice none 0 0] 25)) (w.heap.size + 1) 25 #[.int .i64 0, .int .i64 0, .string ⟨#[]⟩, .slice none 0 0]) := Lib.hid (by
    have := Blk.new (w.alloc (.cells #[.int .i64 v.k, .int .i64 v.n, .string v.s] 34)) 25 #[.int .i64 0, .int .i64 0, .string ⟨#[]⟩, .slice none 0 0]
    rwa [size_alloc] at this)
  have HI := Lib.hid (h.ext e0)
  have HWA := Lib.hid (WA.ext e0)
  have hwb := WA.lt
  have NW := Lib.hid nw
  have HQ := Lib.hid hq
  have HIH := Lib.hid IH
  have HLEN := Lib.hid hlen
  have HOKH := Lib.hid h.ok
  have HH0 := Lib.hid h
  have H4 := Lib.hid h4
  obtain ⟨r, hr⟩ : ∃ r, tableP (subF H d) H q v = r := ⟨_, rfl⟩
  rw [hr]
  have HR := Lib.hid hr
  have d0 := B4.out.cell 0
  have d1 := B4.out.cell 1
  have d2 := B4.out.cell 2
  have d3 := HWA.out.cell 2
  simp only [List.getElem?_toArray, List.getElem?_cons_zero, List.getElem?_cons_succ] at d0 d1 d2 d3
  obtain ⟨lw, hlw⟩ : ∃ lw, lenW H v = lw := ⟨_, rfl⟩
  obtain ⟨ln, hln⟩ : ∃ ln, lenV H v = ln := ⟨_, rfl⟩
  have hlc := fun (Z : World) (hZ : HeapIn Z g tv rs H) => len_any g tv rs H v Z hZ hlen
  rw [hlw, hln] at hlc
  have HLC := Lib.hid hlc
  have HLW := Lib.hid hlw
  have HLN := Lib.hid hln
  clear h hlen hq WA nw IH hr e0 hlc hlw hln h4
  go_enter Tryz.func72, Tryz.ntmps72
  go_wp2_with fail
  generalize ((w.alloc (.cells #[.int .i64 v.k, .int .i64 v.n, .string v.s] 34)).alloc (.cells #[.int .i64 0, .int .i64 0, .string ⟨#[]⟩, .slice none 0 0] 25)) = W at *
  refine wp_region_ext (by kernel_rfl) (by kernel_rfl) ?_
  repeat (
    first
      | go_big_quiet_skip
      | (go_big_quiet_want
         go_big_quiet_op
         first
           | go_big_quiet_on
           | (apply Exists.intro
              refine ⟨fun wq hq => ?_, ?_⟩
              focus (
                have d0 := hq.cell d0
                have d1 := hq.cell d1
                have d2 := hq.cell d2
                have d3 := hq.cell d3
                first
                  | (go_at_call 16; exact Calls.ext_of hq (HLC.out wq (HI.out.ext hq)); done)
                  | (go_simp; exact rfl))
              go_big_quiet_on)))
  refine wpQuiet_nil ?_
  intro we hwe
  have E1 := Lib.hid (HE.out.trans hwe)
  have C4 := Lib.hid (B4.out.ext hwe)
  have C6 := Lib.hid (B6.out.ext hwe)
  have CI := Lib.hid (HI.out.ext hwe)
  have CW := Lib.hid (Blk.ext HWA.out hwe)
  clear hwe d0 d1 d2 d3 B4 B6 HE HI HWA HLC
  rcases Decidable.em (lw = sNone) with hs | hs
  rotate_left
  · have hq1 : ¬ lw.toList = [] := ne_list hs
    have hq2 : lw.toList.isEmpty = false := by cases hw : lw.toList with | nil => exact absurd hw hq1 | cons _ _ => rfl
    go_wp2_with fail
    refine (bmust_no lw _).mono ?_
    rintro e w2 ⟨he, rfl⟩
    unfold Fails at he
    subst he
    have RR : Hid (r = .error lw) := Lib.hid (by
      rw [← HR.out]
      unfold tableP
      rw [HLW.out, if_neg hs])
    go_wp2_with fail
    exact ⟨rfl, by rw [RR.out]; exact ⟨.of_ext E1.out, rfl⟩⟩
  subst hs
  have hq1 : sNone.toList = [] := sNone_list
  go_wp2_with fail
  refine (bmust_yes _ _).mono ?_
  rintro e w2 ⟨rfl, rfl⟩
  obtain ⟨ho, hn0, hn1, hck⟩ := lenV_lo HOKH.out H4.out HLW.out
  rw [HLN.out] at hn0 hn1
  have HO := Lib.hid ho
  clear hq1 ho hck
  go_wp2_with fail
  have SB := Lib.hid (Blk.new we 141 #[.string ⟨#[101, 114, 114]⟩, .int .i64 2, .string ⟨#[111, 107]⟩, .int .i64 1])
  have e1 := (Ext.refl we).alloc (.cells #[.string ⟨#[101, 114, 114]⟩, .int .i64 2, .string ⟨#[111, 107]⟩, .int .i64 1] 141)
  have G1 := Lib.hid (E1.out.trans e1)
  have G4 := Lib.hid (C4.out.ext e1)
  have G6 := Lib.hid (C6.out.ext e1)
  have GI := Lib.hid (CI.out.ext e1)
  have GW := Lib.hid (Blk.ext CW.out e1)
  have hsb := E1.out.le
  have hc6 := C6.out.lt
  generalize we.alloc (.cells #[.string ⟨#[101, 114, 114]⟩, .int .i64 2, .string ⟨#[111, 107]⟩, .int .i64 1] 141) = W1 at *
  obtain ⟨sb, hsbe⟩ : ∃ sb, we.heap.size = sb := ⟨_, rfl⟩
  rw [hsbe] at SB hsb hc6 ⊢
  clear e1 E1 C4 C6 CI CW hsbe
  go_loopw [31] (fun v31 wr => ∃ j : Nat, v31 = .int .i64 j ∧ j ≤ 2 ∧ Hid (Ext W1 wr) ∧ Hid ((0 < j → ¬ (getV H v (tK sErr)).k = 3) ∧ (1 < j → ¬ (getV H v (tK sOk)).k = 3))) (fun v31 _ => 2 - (intOf v31).toNat)
  case atStart => exact ⟨0, rfl, by omega, Lib.hid (Ext.refl _), Lib.hid ⟨fun h => absurd h (by omega), fun h => absurd h (by omega)⟩⟩
  case round =>
    obtain ⟨j, rfl, hj, HX, HN2⟩ := hrel
    rcases (by omega : j = 0 ∨ j = 1 ∨ j = 2) with rfl | rfl | rfl
    · have HS0 := Lib.hid (SB.out.ext HX.out)
      have s0 := HS0.out.cell 0
      have s1 := HS0.out.cell 1
      simp only [List.getElem?_toArray, List.getElem?_cons_zero, List.getElem?_cons_succ] at s0 s1
      have hsl := HS0.out.lt
      obtain ⟨gv, hgv⟩ : ∃ gv, getV H v (tK sErr) = gv := ⟨_, rfl⟩
      have hgc := fun (Z : World) (hZ : HeapIn Z g tv rs H) => get_any g tv rs H v (tK sErr) Z hZ HLEN.out in64_0
      rw [getW_text HO.out (by decide), hgv] at hgc
      have HG := Lib.hid hgc
      have HGV := Lib.hid hgv
      obtain ⟨gk, gn, gs⟩ := gv
      clear hgc hgv
      have ea := (Ext.refl wr).alloc (.cells #[.string ⟨#[101, 114, 114]⟩, .int .i64 2] 141)
      have A1 := Lib.hid (HX.out.trans ea)
      have A10 := Lib.hid (Blk.new wr 141 #[.string ⟨#[101, 114, 114]⟩, .int .i64 2])
      have hwl := HX.out.le
      have hsl2 : sb < W1.heap.size := SB.out.lt
      go_upto_region 6 with (fail)
      clear s0 s1 hsl HS0
      generalize wr.alloc (.cells #[.string ⟨#[101, 114, 114]⟩, .int .i64 2] 141) = wa at *
      obtain ⟨b10, hb10⟩ : ∃ b10, wr.heap.size = b10 := ⟨_, rfl⟩
      rw [hb10] at A10 hwl ⊢
      clear hb10 ea
      have AI := Lib.hid (GI.out.ext A1.out)
      have AW := Lib.hid (Blk.ext GW.out A1.out)
      have A4 := Lib.hid (G4.out.ext A1.out)
      have A6 := Lib.hid (G6.out.ext A1.out)
      have AE := Lib.hid (G1.out.trans A1.out)
      have c0 := AW.out.cell 2
      have c1 := A4.out.cell 0
      have c2 := A4.out.cell 1
      have c3 := A4.out.cell 2
      have c4 := A10.out.cell 0
      simp only [List.getElem?_toArray, List.getElem?_cons_zero, List.getElem?_cons_succ] at c0 c1 c2 c3 c4
      have hW : wb < wa.heap.size := AW.out.lt
      have hV : w.heap.size < wa.heap.size := A4.out.lt
      have hK : b10 < wa.heap.size := A10.out.lt
      have ta : ¬ wa.heap.size = wb := by omega
      have tb : ¬ wb = wa.heap.size := by omega
      have tc : ¬ wa.heap.size = w.heap.size := by omega
      have td : ¬ w.heap.size = wa.heap.size := by omega
      have te : ¬ wa.heap.size = b10 := by omega
      have tf : ¬ b10 = wa.heap.size := by omega
      go_cut [11] (fun s11 wx => ∃ bv : Nat, s11 = .pointer (some ⟨bv, 0, none⟩) ∧ Hid (Blk wx bv 34 #[.int .i64 gk, .int .i64 gn, .string gs] ∧ Ext wa wx ∧ wa.heap.size ≤ bv))
      case first =>
        go_region_held3 (fun w' => w'.cell? ⟨wb, 2, none⟩ = some (.pointer (some ⟨g, 0, none⟩)) ∧ w'.cell? ⟨w.heap.size, 0, none⟩ = some (.int .i64 v.k) ∧ w'.cell? ⟨w.heap.size, 1, none⟩ = some (.int .i64 v.n) ∧ w'.cell? ⟨w.heap.size, 2, none⟩ = some (.string v.s) ∧ w'.cell? ⟨b10, 0, none⟩ = some (.string ⟨#[101, 114, 114]⟩)) (go_keep)
          (first
            | (go_at_call 22; refine (text_any _ _).mono ?_; rintro e wp ⟨rfl, e3⟩; have Ep := Lib.hid (show Ext wa wp from Ext.trans (by repeat (first | exact Ext.refl _ | refine Ext.drew ?_ | refine Ext.alloc ?_ _)) e3); have p0 := (Ep.out.cells.1 _ _ hW).trans c0; have p1 := (Ep.out.cells.1 _ _ hV).trans c1; have p2 := (Ep.out.cells.1 _ _ hV).trans c2; have p3 := (Ep.out.cells.1 _ _ hV).trans c3; have p4 := (Ep.out.cells.1 _ _ hK).trans c4; have LpW : wb < wp.heap.size := Nat.lt_of_lt_of_le hW Ep.out.le; have NpW : ¬ wp.heap.size = wb := Nat.ne_of_gt LpW; have MpW : ¬ wb = wp.heap.size := Nat.ne_of_lt LpW; have LpV : w.heap.size < wp.heap.size := Nat.lt_of_lt_of_le hV Ep.out.le; have NpV : ¬ wp.heap.size = w.heap.size := Nat.ne_of_gt LpV; have MpV : ¬ w.heap.size = wp.heap.size := Nat.ne_of_lt LpV; have LpK : b10 < wp.heap.size := Nat.lt_of_lt_of_le hK Ep.out.le; have NpK : ¬ wp.heap.size = b10 := Nat.ne_of_gt LpK; have MpK : ¬ b10 = wp.heap.size := Nat.ne_of_lt LpK; (try (have hq : Ext (World.alloc wa.drew (.cells #[.int .i64 0, .int .i64 0, .string ⟨#[]⟩] 34)) wp := (by with_reducible exact e3); have ZA := Lib.hid (ZB.new wa.heap.size rfl hq); clear hq)); (try (have hq : Ext (World.drew (World.alloc wa (.cells #[.int .i64 0, .int .i64 0, .string ⟨#[]⟩] 34))) wp := (by with_reducible exact e3); have ZA := Lib.hid (ZB.newd wa.heap.size rfl hq); clear hq)); clear e3)
            | (go_at_call 14; refine (HG.out _ (by repeat (first | exact AI.out.ext Ep.out | refine HeapIn.ext ?_ (Ext.alloc (Ext.refl _) _)))).mono ?_; rintro e wq ⟨rfl, e4⟩; have Eq := Lib.hid (show Ext wa wq from Ext.trans (by repeat (first | exact Ep.out | refine Ext.alloc ?_ _)) e4); have q0 := (Eq.out.cells.1 _ _ hW).trans c0; have q1 := (Eq.out.cells.1 _ _ hV).trans c1; have q2 := (Eq.out.cells.1 _ _ hV).trans c2; have q3 := (Eq.out.cells.1 _ _ hV).trans c3; have q4 := (Eq.out.cells.1 _ _ hK).trans c4; have LqW : wb < wq.heap.size := Nat.lt_of_lt_of_le hW Eq.out.le; have NqW : ¬ wq.heap.size = wb := Nat.ne_of_gt LqW; have MqW : ¬ wb = wq.heap.size := Nat.ne_of_lt LqW; have LqV : w.heap.size < wq.heap.size := Nat.lt_of_lt_of_le hV Eq.out.le; have NqV : ¬ wq.heap.size = w.heap.size := Nat.ne_of_gt LqV; have MqV : ¬ w.heap.size = wq.heap.size := Nat.ne_of_lt LqV; have LqK : b10 < wq.heap.size := Nat.lt_of_lt_of_le hK Eq.out.le; have NqK : ¬ wq.heap.size = b10 := Nat.ne_of_gt LqK; have MqK : ¬ b10 = wq.heap.size := Nat.ne_of_lt LqK; (try (have hz : Hid (ZB wp wa.heap.size) := (by with_reducible assumption); have ZC := Lib.hid (hz.out.ext e4); clear hz)); (try (have hq : Ext (World.alloc wp (.cells #[.int .i64 0, .int .i64 0, .string ⟨#[]⟩] 34)) wq := (by with_reducible exact e4); have ZC := Lib.hid (ZB.new wp.heap.size rfl hq); clear hq)); clear e4)
            | (go_at_call 30; refine (got_yes ⟨gk, gn, gs⟩ _).mono ?_; rintro e ws ⟨rfl, e5⟩; have Es := Lib.hid (show Ext wa ws from Ext.trans (by repeat (first | exact Eq.out | refine Ext.alloc ?_ _)) e5); have s0 := (Es.out.cells.1 _ _ hW).trans c0; have s1 := (Es.out.cells.1 _ _ hV).trans c1; have s2 := (Es.out.cells.1 _ _ hV).trans c2; have s3 := (Es.out.cells.1 _ _ hV).trans c3; have s4 := (Es.out.cells.1 _ _ hK).trans c4; have LsW : wb < ws.heap.size := Nat.lt_of_lt_of_le hW Es.out.le; have NsW : ¬ ws.heap.size = wb := Nat.ne_of_gt LsW; have MsW : ¬ wb = ws.heap.size := Nat.ne_of_lt LsW; have LsV : w.heap.size < ws.heap.size := Nat.lt_of_lt_of_le hV Es.out.le; have NsV : ¬ ws.heap.size = w.heap.size := Nat.ne_of_gt LsV; have MsV : ¬ w.heap.size = ws.heap.size := Nat.ne_of_lt LsV; have LsK : b10 < ws.heap.size := Nat.lt_of_lt_of_le hK Es.out.le; have NsK : ¬ ws.heap.size = b10 := Nat.ne_of_gt LsK; have MsK : ¬ b10 = ws.heap.size := Nat.ne_of_lt LsK; (try (have hz : Hid (ZB wq wa.heap.size) := (by with_reducible assumption); have ZZ := Lib.hid (hz.out.ext e5); obtain ⟨zl, zv0, zv1, zv2, zf0, zf1, zf2⟩ := ZZ.out.facts; clear hz)); (try (have hz : Hid (ZB wq wp.heap.size) := (by with_reducible assumption); have ZZ := Lib.hid (hz.out.ext e5); obtain ⟨zl, zv0, zv1, zv2, zf0, zf1, zf2⟩ := ZZ.out.facts; clear hz)); (try (have hq : Ext (World.alloc wq (.cells #[.int .i64 0, .int .i64 0, .string ⟨#[]⟩] 34)) ws := (by with_reducible exact e5); have ZZ := Lib.hid (ZB.new wq.heap.size rfl hq); obtain ⟨zl, zv0, zv1, zv2, zf0, zf1, zf2⟩ := ZZ.out.facts; clear hq)); clear e5))
        all_goals go_wp2_with fail
        all_goals (
          go_meet
          first
            | exact ⟨_, rfl, Lib.hid ⟨put3 ZZ.out _ _ _, ((Es.out.setCell (Nat.le_refl _) _).setCell (Nat.le_refl _) _).setCell (Nat.le_refl _) _, Nat.le_refl _⟩⟩
            | exact ⟨_, rfl, Lib.hid ⟨put3 ZZ.out _ _ _, ((Es.out.setCell Ep.out.le _).setCell Ep.out.le _).setCell Ep.out.le _, Ep.out.le⟩⟩
            | exact ⟨_, rfl, Lib.hid ⟨put3 ZZ.out _ _ _, ((Es.out.setCell Eq.out.le _).setCell Eq.out.le _).setCell Eq.out.le _, Eq.out.le⟩⟩
            | exact ⟨_, rfl, Lib.hid ⟨put3 ZZ.out _ _ _, ((Es.out.setCell Es.out.le _).setCell Es.out.le _).setCell Es.out.le _, Es.out.le⟩⟩
            | exact ⟨_, rfl, Lib.hid ⟨Blk.new _ _ _, Es.out.alloc _, Es.out.le⟩⟩)
      case rest =>
        obtain ⟨bv, rfl, HXX⟩ := hcut
        obtain ⟨wx, rfl⟩ : ∃ wx : World, wx = wc := ⟨_, rfl⟩
        clear ta tb tc td te tf c0 c1 c2 c3 c4
        have v0 := HXX.out.1.cell 0
        simp only [List.getElem?_toArray, List.getElem?_cons_zero, List.getElem?_cons_succ] at v0
        rcases Decidable.em (gk = 3) with hk3 | hk3
        · subst hk3
          have I4 := Lib.hid (A4.out.ext HXX.out.2.1)
          have I6 := Lib.hid (A6.out.ext HXX.out.2.1)
          have I10 := Lib.hid (A10.out.ext HXX.out.2.1)
          have IW := Lib.hid (Blk.ext AW.out HXX.out.2.1)
          have IE := Lib.hid (AE.out.trans HXX.out.2.1)
          have IB := Lib.hid HXX.out.1
          have hbv := HXX.out.2.2
          have RR : Hid (r = textP q 2 gs) := Lib.hid (by
            rw [← HR.out]
            unfold tableP
            rw [if_pos HLW.out]
            rw [if_pos (by rw [HGV.out]), HGV.out])
          clear HXX AI AW A4 A6 A10 AE
          go_wp2_with fail
          clear v0
          have HT := Lib.hid (fun (Q : World) (hW : WAt Q wb g q) => rtext_do Q wb g q HQ.out hW gs)
          have HW : Hid (WAt wx.drew wb g q) := Lib.hid (Blk.drew IW.out)
          have XF : Hid (∀ w3, w3 = wx.drew.setCell ⟨wb, 1, none⟩ (.int .i64 (q.texts - min (gs.size : Int) 1048577)) → (fun w' => w'.cell? ⟨b10, 1, none⟩ = some (.int .i64 2) ∧ w'.cell? ⟨bv, 2, none⟩ = some (.string gs)) w3 ∧ Blk w3 (w.heap.size + 1) 25 #[.int .i64 0, .int .i64 0, .string ⟨#[]⟩, .slice none 0 0] ∧ WAt w3 wb g ⟨q.items, (q.texts - min (gs.size : Int) 1048577)⟩ ∧ Only wb w w3 ∧ Blk w3 b10 141 #[.string ⟨#[101, 114, 114]⟩, .int .i64 2] ∧ Blk w3 bv 34 #[.int .i64 3, .int .i64 gn, .string gs]) := Lib.hid (by
            rintro w3 rfl
            have K10 := I10.out.drew.far (p := ⟨wb, 1, none⟩) (by show b10 ≠ wb; omega) (.int .i64 (q.texts - min (gs.size : Int) 1048577))
            have KB := IB.out.drew.far (p := ⟨wb, 1, none⟩) (by show bv ≠ wb; omega) (.int .i64 (q.texts - min (gs.size : Int) 1048577))
            refine ⟨⟨K10.cell 1, KB.cell 2⟩, I6.out.drew.far (by show w.heap.size + 1 ≠ wb; omega) _, ?_, (Only.of_ext IE.out).drew.setCell (.inl rfl) _, K10, KB⟩
            have := (Blk.drew IW.out).set_ 1 (.int .i64 (q.texts - min (gs.size : Int) 1048577))
            simpa using this)
          have YF : Hid (∀ w3 x0 x1 x2 x3, Blk w3 (w.heap.size + 1) 25 #[.int .i64 0, .int .i64 0, .string ⟨#[]⟩, .slice none 0 0] ∧ WAt w3 wb g ⟨q.items, (q.texts - min (gs.size : Int) 1048577)⟩ ∧ Only wb w w3 ∧ Blk w3 b10 141 #[.string ⟨#[101, 114, 114]⟩, .int .i64 2] ∧ Blk w3 bv 34 #[.int .i64 3, .int .i64 gn, .string gs] → (fun w' => w'.cell? ⟨b10, 1, none⟩ = some (.int .i64 2) ∧ w'.cell? ⟨bv, 2, none⟩ = some (.string gs)) ((((w3.setCell ⟨w.heap.size + 1, 0, none⟩ x0).setCell ⟨w.heap.size + 1, 1, none⟩ x1).setCell ⟨w.heap.size + 1, 2, none⟩ x2).setCell ⟨w.heap.size + 1, 3, none⟩ x3) ∧ Blk ((((w3.setCell ⟨w.heap.size + 1, 0, none⟩ x0).setCell ⟨w.heap.size + 1, 1, none⟩ x1).setCell ⟨w.heap.size + 1, 2, none⟩ x2).setCell ⟨w.heap.size + 1, 3, none⟩ x3) (w.heap.size + 1) 25 #[x0, x1, x2, x3] ∧ (WAt ((((w3.setCell ⟨w.heap.size + 1, 0, none⟩ x0).setCell ⟨w.heap.size + 1, 1, none⟩ x1).setCell ⟨w.heap.size + 1, 2, none⟩ x2).setCell ⟨w.heap.size + 1, 3, none⟩ x3) wb g ⟨q.items, (q.texts - min (gs.size : Int) 1048577)⟩ ∧ Only wb w ((((w3.setCell ⟨w.heap.size + 1, 0, none⟩ x0).setCell ⟨w.heap.size + 1, 1, none⟩ x1).setCell ⟨w.heap.size + 1, 2, none⟩ x2).setCell ⟨w.heap.size + 1, 3, none⟩ x3))) := Lib.hid (by
            rintro w3 x0 x1 x2 x3 ⟨h1, h2, h3, h4, h5⟩
            exact ⟨⟨(far4 h4 (by omega) _ _ _ _).cell 1, (far4 h5 (by omega) _ _ _ _).cell 2⟩, put4 h1 _ _ _ _, far4 h2 (by omega) _ _ _ _, only4 h3 (by omega) _ _ _ _⟩)
          have YES : Hid (0 ≤ (q.texts - min (gs.size : Int) 1048577) → ∀ Q, WAt Q wb g ⟨q.items, (q.texts - min (gs.size : Int) 1048577)⟩ ∧ Only wb w Q → BepE w wb g d r (.returned (.agg #[.int .i64 2, .int .i64 0, .string gs, .slice none 0 0])) Q) := Lib.hid (fun hs Q hQ => by
            rw [RR.out]
            unfold textP
            rw [if_pos hs]
            exact ⟨hQ.2, _, rfl, nilR _ _ _ _ _ _, hQ.1⟩)
          have NO : Hid (¬ 0 ≤ (q.texts - min (gs.size : Int) 1048577) → BepE w wb g d r (.panicked [{ v := bfailV sReply, recovered := false }]) (wx.drew.setCell ⟨wb, 1, none⟩ (.int .i64 (q.texts - min (gs.size : Int) 1048577)))) := Lib.hid (fun hs => by
            rw [RR.out]
            unfold textP
            rw [if_neg hs]
            exact ⟨(XF.out _ rfl).2.2.2.1, rfl⟩)
          have dd := Lib.hid (show (fun w' => w'.cell? ⟨b10, 1, none⟩ = some (.int .i64 2) ∧ w'.cell? ⟨bv, 2, none⟩ = some (.string gs)) wx.drew from ⟨I10.out.drew.cell 1, IB.out.drew.cell 2⟩)
          refine wp_region_held_drew (S := fun w' => w'.cell? ⟨b10, 1, none⟩ = some (.int .i64 2) ∧ w'.cell? ⟨bv, 2, none⟩ = some (.string gs)) (by kernel_rfl) dd.out (fun hHeld => ?_)
          refine wpAnyH_take (i := 0) (v := ?_) rfl (by kernel_rfl) (by kernel_rfl) (by kernel_rfl) (fun _ _ _ h => h) (Or.inl ⟨by rfl, (by intro w hSw; (try dsimp only at hSw); go_simp; first | done | with_reducible rfl)⟩) (by assumption) ?_
          (try simp only [Act.put, List.setIfInBounds_toArray, List.set_cons_zero, List.set_cons_succ])
          refine wpAnyH_take (i := 1) (v := ?_) rfl (by kernel_rfl) (by kernel_rfl) (by kernel_rfl) (fun _ _ _ h => h) (Or.inl ⟨by rfl, (by intro w hSw; (try dsimp only at hSw); go_simp; first | done | with_reducible rfl)⟩) (by assumption) ?_
          (try simp only [Act.put, List.setIfInBounds_toArray, List.set_cons_zero, List.set_cons_succ])
          refine wpAnyH_take (i := 2) (v := ?_) rfl (by kernel_rfl) (by kernel_rfl) (by kernel_rfl) (fun _ _ _ h => h) (Or.inl ⟨by rfl, (by intro w hSw; (try dsimp only at hSw); go_simp; first | done | with_reducible rfl)⟩) (by assumption) ?_
          (try simp only [Act.put, List.setIfInBounds_toArray, List.set_cons_zero, List.set_cons_succ])
          refine wpAnyH_take (i := 3) (v := ?_) rfl (by kernel_rfl) (by kernel_rfl) (by kernel_rfl) (fun _ _ _ h => h) (Or.inl ⟨by rfl, (by intro w hSw; (try dsimp only at hSw); go_simp; first | done | with_reducible rfl)⟩) (by assumption) ?_
          (try simp only [Act.put, List.setIfInBounds_toArray, List.set_cons_zero, List.set_cons_succ])
          refine wpAnyH_take (i := 4) (v := ?_) rfl (by kernel_rfl) (by kernel_rfl) (by kernel_rfl) (fun _ _ _ h => h) (Or.inl ⟨by rfl, (by intro w hSw; (try dsimp only at hSw); go_simp; first | done | with_reducible rfl)⟩) (by assumption) ?_
          (try simp only [Act.put, List.setIfInBounds_toArray, List.set_cons_zero, List.set_cons_succ])
          refine wpAnyH_take (i := 5) (v := ?_) rfl (by kernel_rfl) (by kernel_rfl) (by kernel_rfl) (fun _ _ _ h => h) (Or.inl ⟨by rfl, (by intro w hSw; (try dsimp only at hSw); go_simp; first | done | with_reducible rfl)⟩) (by assumption) ?_
          (try simp only [Act.put, List.setIfInBounds_toArray, List.set_cons_zero, List.set_cons_succ])
          refine wpAnyH_take (i := 6) (v := ?_) rfl (by kernel_rfl) (by kernel_rfl) (by kernel_rfl) (fun _ _ _ h => h) (Or.inl ⟨by rfl, (by intro w hSw; (try dsimp only at hSw); go_simp; first | done | with_reducible rfl)⟩) (by assumption) ?_
          (try simp only [Act.put, List.setIfInBounds_toArray, List.set_cons_zero, List.set_cons_succ])
          refine wpAnyH_ready (rs := [7]) (by kernel_rfl) (by simp) ?_
          refine AllReadyH.cons rfl (fun K hK => ?_) ?_
          · skip
            go_simp
            rcases Decidable.em (0 ≤ (q.texts - min (gs.size : Int) 1048577)) with hs | hs
            rotate_left
            · refine (HT.out _ HW.out).mono ?_
              rintro e w3 ⟨-, he, rfl⟩
              have he := he (by omega)
              unfold Fails at he
              subst he
              exact ⟨rfl, NO.out (by omega)⟩
            refine (HT.out _ HW.out).mono ?_
            rintro e w3 ⟨he, -, hw3⟩
            obtain rfl := he (by omega)
            have X3 := Lib.hid (XF.out _ hw3)
            clear he hw3
            clear hHeld
            refine hK.out _ _ (X3.out.1) (fun hHeld => ?_)
            clear hK K
            (try simp only [Act.put, List.setIfInBounds_toArray, List.set_cons_zero, List.set_cons_succ])
            refine wpAnyH_take (i := 8) (v := ?_) rfl (by kernel_rfl) (by kernel_rfl) (by kernel_rfl) (fun _ _ _ h => h) (Or.inl ⟨by rfl, (by intro w hSw; (try dsimp only at hSw); go_simp; first | done | with_reducible rfl)⟩) (by assumption) ?_
            (try simp only [Act.put, List.setIfInBounds_toArray, List.set_cons_zero, List.set_cons_succ])
            refine wpAnyH_ready (rs := [9]) (by kernel_rfl) (by simp) ?_
            refine AllReadyH.cons rfl (fun K hK => ?_) ?_
            · skip
              obtain ⟨z0, z1, z2, z3, y0, y1, y2, y3⟩ := four X3.out.2.1
              have hl3 := X3.out.2.1.lt
              go_simp
              have Y3 := Lib.hid (YF.out w3 (.int .i64 2) (.int .i64 0) (.string gs) (.slice none 0 0) X3.out.2)
              clear hHeld
              refine hK.out _ _ (Y3.out.1) (fun hHeld => ?_)
              clear hK K
              (try simp only [Act.put, List.setIfInBounds_toArray, List.set_cons_zero, List.set_cons_succ])
              refine wpAnyH_done (by kernel_rfl) ?_ _
              go_wp2_with fail
              obtain ⟨z0, z1, z2, z3, _⟩ := four Y3.out.2.1
              exact bodyPost_ret (v := .agg #[.int .i64 2, .int .i64 0, .string gs, .slice none 0 0]) (by simp [results, Tryz.results72, go_sem, *]) rfl (YES.out (by omega) _ Y3.out.2.2)
            · skip
              exact AllReadyH.nil
          · skip
            exact AllReadyH.nil
        · have hk4 : (gk == 3) = false := by simpa using hk3
          have EE := Lib.hid (A1.out.trans HXX.out.2.1)
          have HN3 : Hid ((0 < 1 → ¬ (getV H v (tK sErr)).k = 3) ∧ (1 < 1 → ¬ (getV H v (tK sOk)).k = 3)) := Lib.hid (⟨fun _ => by rw [HGV.out]; exact hk3, fun h => absurd h (by omega)⟩)
          clear HXX hk3
          go_wp2_with fail
          go_roundw
          case rel => exact ⟨1, by go_num, by omega, EE, HN3⟩
          case measure => simp [intOf]
    · have HS0 := Lib.hid (SB.out.ext HX.out)
      have s0 := HS0.out.cell 2
      have s1 := HS0.out.cell 3
      simp only [List.getElem?_toArray, List.getElem?_cons_zero, List.getElem?_cons_succ] at s0 s1
      have hsl := HS0.out.lt
      obtain ⟨gv, hgv⟩ : ∃ gv, getV H v (tK sOk) = gv := ⟨_, rfl⟩
      have hgc := fun (Z : World) (hZ : HeapIn Z g tv rs H) => get_any g tv rs H v (tK sOk) Z hZ HLEN.out in64_0
      rw [getW_text HO.out (by decide), hgv] at hgc
      have HG := Lib.hid hgc
      have HGV := Lib.hid hgv
      obtain ⟨gk, gn, gs⟩ := gv
      clear hgc hgv
      have ea := (Ext.refl wr).alloc (.cells #[.string ⟨#[111, 107]⟩, .int .i64 1] 141)
      have A1 := Lib.hid (HX.out.trans ea)
      have A10 := Lib.hid (Blk.new wr 141 #[.string ⟨#[111, 107]⟩, .int .i64 1])
      have hwl := HX.out.le
      have hsl2 : sb < W1.heap.size := SB.out.lt
      go_upto_region 6 with (fail)
      clear s0 s1 hsl HS0
      generalize wr.alloc (.cells #[.string ⟨#[111, 107]⟩, .int .i64 1] 141) = wa at *
      obtain ⟨b10, hb10⟩ : ∃ b10, wr.heap.size = b10 := ⟨_, rfl⟩
      rw [hb10] at A10 hwl ⊢
      clear hb10 ea
      have AI := Lib.hid (GI.out.ext A1.out)
      have AW := Lib.hid (Blk.ext GW.out A1.out)
      have A4 := Lib.hid (G4.out.ext A1.out)
      have A6 := Lib.hid (G6.out.ext A1.out)
      have AE := Lib.hid (G1.out.trans A1.out)
      have c0 := AW.out.cell 2
      have c1 := A4.out.cell 0
      have c2 := A4.out.cell 1
      have c3 := A4.out.cell 2
      have c4 := A10.out.cell 0
      simp only [List.getElem?_toArray, List.getElem?_cons_zero, List.getElem?_cons_succ] at c0 c1 c2 c3 c4
      have hW : wb < wa.heap.size := AW.out.lt
      have hV : w.heap.size < wa.heap.size := A4.out.lt
      have hK : b10 < wa.heap.size := A10.out.lt
      have ta : ¬ wa.heap.size = wb := by omega
      have tb : ¬ wb = wa.heap.size := by omega
      have tc : ¬ wa.heap.size = w.heap.size := by omega
      have td : ¬ w.heap.size = wa.heap.size := by omega
      have te : ¬ wa.heap.size = b10 := by omega
      have tf : ¬ b10 = wa.heap.size := by omega
      go_cut [11] (fun s11 wx => ∃ bv : Nat, s11 = .pointer (some ⟨bv, 0, none⟩) ∧ Hid (Blk wx bv 34 #[.int .i64 gk, .int .i64 gn, .string gs] ∧ Ext wa wx ∧ wa.heap.size ≤ bv))
      case first =>
        go_region_held3 (fun w' => w'.cell? ⟨wb, 2, none⟩ = some (.pointer (some ⟨g, 0, none⟩)) ∧ w'.cell? ⟨w.heap.size, 0, none⟩ = some (.int .i64 v.k) ∧ w'.cell? ⟨w.heap.size, 1, none⟩ = some (.int .i64 v.n) ∧ w'.cell? ⟨w.heap.size, 2, none⟩ = some (.string v.s) ∧ w'.cell? ⟨b10, 0, none⟩ = some (.string ⟨#[111, 107]⟩)) (go_keep)
          (first
            | (go_at_call 22; refine (text_any _ _).mono ?_; rintro e wp ⟨rfl, e3⟩; have Ep := Lib.hid (show Ext wa wp from Ext.trans (by repeat (first | exact Ext.refl _ | refine Ext.drew ?_ | refine Ext.alloc ?_ _)) e3); have p0 := (Ep.out.cells.1 _ _ hW).trans c0; have p1 := (Ep.out.cells.1 _ _ hV).trans c1; have p2 := (Ep.out.cells.1 _ _ hV).trans c2; have p3 := (Ep.out.cells.1 _ _ hV).trans c3; have p4 := (Ep.out.cells.1 _ _ hK).trans c4; have LpW : wb < wp.heap.size := Nat.lt_of_lt_of_le hW Ep.out.le; have NpW : ¬ wp.heap.size = wb := Nat.ne_of_gt LpW; have MpW : ¬ wb = wp.heap.size := Nat.ne_of_lt LpW; have LpV : w.heap.size < wp.heap.size := Nat.lt_of_lt_of_le hV Ep.out.le; have NpV : ¬ wp.heap.size = w.heap.size := Nat.ne_of_gt LpV; have MpV : ¬ w.heap.size = wp.heap.size := Nat.ne_of_lt LpV; have LpK : b10 < wp.heap.size := Nat.lt_of_lt_of_le hK Ep.out.le; have NpK : ¬ wp.heap.size = b10 := Nat.ne_of_gt LpK; have MpK : ¬ b10 = wp.heap.size := Nat.ne_of_lt LpK; (try (have hq : Ext (World.alloc wa.drew (.cells #[.int .i64 0, .int .i64 0, .string ⟨#[]⟩] 34)) wp := (by with_reducible exact e3); have ZA := Lib.hid (ZB.new wa.heap.size rfl hq); clear hq)); (try (have hq : Ext (World.drew (World.alloc wa (.cells #[.int .i64 0, .int .i64 0, .string ⟨#[]⟩] 34))) wp := (by with_reducible exact e3); have ZA := Lib.hid (ZB.newd wa.heap.size rfl hq); clear hq)); clear e3)
            | (go_at_call 14; refine (HG.out _ (by repeat (first | exact AI.out.ext Ep.out | refine HeapIn.ext ?_ (Ext.alloc (Ext.refl _) _)))).mono ?_; rintro e wq ⟨rfl, e4⟩; have Eq := Lib.hid (show Ext wa wq from Ext.trans (by repeat (first | exact Ep.out | refine Ext.alloc ?_ _)) e4); have q0 := (Eq.out.cells.1 _ _ hW).trans c0; have q1 := (Eq.out.cells.1 _ _ hV).trans c1; have q2 := (Eq.out.cells.1 _ _ hV).trans c2; have q3 := (Eq.out.cells.1 _ _ hV).trans c3; have q4 := (Eq.out.cells.1 _ _ hK).trans c4; have LqW : wb < wq.heap.size := Nat.lt_of_lt_of_le hW Eq.out.le; have NqW : ¬ wq.heap.size = wb := Nat.ne_of_gt LqW; have MqW : ¬ wb = wq.heap.size := Nat.ne_of_lt LqW; have LqV : w.heap.size < wq.heap.size := Nat.lt_of_lt_of_le hV Eq.out.le; have NqV : ¬ wq.heap.size = w.heap.size := Nat.ne_of_gt LqV; have MqV : ¬ w.heap.size = wq.heap.size := Nat.ne_of_lt LqV; have LqK : b10 < wq.heap.size := Nat.lt_of_lt_of_le hK Eq.out.le; have NqK : ¬ wq.heap.size = b10 := Nat.ne_of_gt LqK; have MqK : ¬ b10 = wq.heap.size := Nat.ne_of_lt LqK; (try (have hz : Hid (ZB wp wa.heap.size) := (by with_reducible assumption); have ZC := Lib.hid (hz.out.ext e4); clear hz)); (try (have hq : Ext (World.alloc wp (.cells #[.int .i64 0, .int .i64 0, .string ⟨#[]⟩] 34)) wq := (by with_reducible exact e4); have ZC := Lib.hid (ZB.new wp.heap.size rfl hq); clear hq)); clear e4)
            | (go_at_call 30; refine (got_yes ⟨gk, gn, gs⟩ _).mono ?_; rintro e ws ⟨rfl, e5⟩; have Es := Lib.hid (show Ext wa ws from Ext.trans (by repeat (first | exact Eq.out | refine Ext.alloc ?_ _)) e5); have s0 := (Es.out.cells.1 _ _ hW).trans c0; have s1 := (Es.out.cells.1 _ _ hV).trans c1; have s2 := (Es.out.cells.1 _ _ hV).trans c2; have s3 := (Es.out.cells.1 _ _ hV).trans c3; have s4 := (Es.out.cells.1 _ _ hK).trans c4; have LsW : wb < ws.heap.size := Nat.lt_of_lt_of_le hW Es.out.le; have NsW : ¬ ws.heap.size = wb := Nat.ne_of_gt LsW; have MsW : ¬ wb = ws.heap.size := Nat.ne_of_lt LsW; have LsV : w.heap.size < ws.heap.size := Nat.lt_of_lt_of_le hV Es.out.le; have NsV : ¬ ws.heap.size = w.heap.size := Nat.ne_of_gt LsV; have MsV : ¬ w.heap.size = ws.heap.size := Nat.ne_of_lt LsV; have LsK : b10 < ws.heap.size := Nat.lt_of_lt_of_le hK Es.out.le; have NsK : ¬ ws.heap.size = b10 := Nat.ne_of_gt LsK; have MsK : ¬ b10 = ws.heap.size := Nat.ne_of_lt LsK; (try (have hz : Hid (ZB wq wa.heap.size) := (by with_reducible assumption); have ZZ := Lib.hid (hz.out.ext e5); obtain ⟨zl, zv0, zv1, zv2, zf0, zf1, zf2⟩ := ZZ.out.facts; clear hz)); (try (have hz : Hid (ZB wq wp.heap.size) := (by with_reducible assumption); have ZZ := Lib.hid (hz.out.ext e5); obtain ⟨zl, zv0, zv1, zv2, zf0, zf1, zf2⟩ := ZZ.out.facts; clear hz)); (try (have hq : Ext (World.alloc wq (.cells #[.int .i64 0, .int .i64 0, .string ⟨#[]⟩] 34)) ws := (by with_reducible exact e5); have ZZ := Lib.hid (ZB.new wq.heap.size rfl hq); obtain ⟨zl, zv0, zv1, zv2, zf0, zf1, zf2⟩ := ZZ.out.facts; clear hq)); clear e5))
        all_goals go_wp2_with fail
        all_goals (
          go_meet
          first
            | exact ⟨_, rfl, Lib.hid ⟨put3 ZZ.out _ _ _, ((Es.out.setCell (Nat.le_refl _) _).setCell (Nat.le_refl _) _).setCell (Nat.le_refl _) _, Nat.le_refl _⟩⟩
            | exact ⟨_, rfl, Lib.hid ⟨put3 ZZ.out _ _ _, ((Es.out.setCell Ep.out.le _).setCell Ep.out.le _).setCell Ep.out.le _, Ep.out.le⟩⟩
            | exact ⟨_, rfl, Lib.hid ⟨put3 ZZ.out _ _ _, ((Es.out.setCell Eq.out.le _).setCell Eq.out.le _).setCell Eq.out.le _, Eq.out.le⟩⟩
            | exact ⟨_, rfl, Lib.hid ⟨put3 ZZ.out _ _ _, ((Es.out.setCell Es.out.le _).setCell Es.out.le _).setCell Es.out.le _, Es.out.le⟩⟩
            | exact ⟨_, rfl, Lib.hid ⟨Blk.new _ _ _, Es.out.alloc _, Es.out.le⟩⟩)
      case rest =>
        obtain ⟨bv, rfl, HXX⟩ := hcut
        obtain ⟨wx, rfl⟩ : ∃ wx : World, wx = wc := ⟨_, rfl⟩
        clear ta tb tc td te tf c0 c1 c2 c3 c4
        have v0 := HXX.out.1.cell 0
        simp only [List.getElem?_toArray, List.getElem?_cons_zero, List.getElem?_cons_succ] at v0
        rcases Decidable.em (gk = 3) with hk3 | hk3
        · subst hk3
          have I4 := Lib.hid (A4.out.ext HXX.out.2.1)
          have I6 := Lib.hid (A6.out.ext HXX.out.2.1)
          have I10 := Lib.hid (A10.out.ext HXX.out.2.1)
          have IW := Lib.hid (Blk.ext AW.out HXX.out.2.1)
          have IE := Lib.hid (AE.out.trans HXX.out.2.1)
          have IB := Lib.hid HXX.out.1
          have hbv := HXX.out.2.2
          have RR : Hid (r = textP q 1 gs) := Lib.hid (by
            rw [← HR.out]
            unfold tableP
            rw [if_pos HLW.out]
            rw [if_neg (HN2.out.1 (by decide)), if_pos (by rw [HGV.out]), HGV.out])
          clear HXX AI AW A4 A6 A10 AE
          go_wp2_with fail
          clear v0
          have HT := Lib.hid (fun (Q : World) (hW : WAt Q wb g q) => rtext_do Q wb g q HQ.out hW gs)
          have HW : Hid (WAt wx.drew wb g q) := Lib.hid (Blk.drew IW.out)
          have XF : Hid (∀ w3, w3 = wx.drew.setCell ⟨wb, 1, none⟩ (.int .i64 (q.texts - min (gs.size : Int) 1048577)) → (fun w' => w'.cell? ⟨b10, 1, none⟩ = some (.int .i64 1) ∧ w'.cell? ⟨bv, 2, none⟩ = some (.string gs)) w3 ∧ Blk w3 (w.heap.size + 1) 25 #[.int .i64 0, .int .i64 0, .string ⟨#[]⟩, .slice none 0 0] ∧ WAt w3 wb g ⟨q.items, (q.texts - min (gs.size : Int) 1048577)⟩ ∧ Only wb w w3 ∧ Blk w3 b10 141 #[.string ⟨#[111, 107]⟩, .int .i64 1] ∧ Blk w3 bv 34 #[.int .i64 3, .int .i64 gn, .string gs]) := Lib.hid (by
            rintro w3 rfl
            have K10 := I10.out.drew.far (p := ⟨wb, 1, none⟩) (by show b10 ≠ wb; omega) (.int .i64 (q.texts - min (gs.size : Int) 1048577))
            have KB := IB.out.drew.far (p := ⟨wb, 1, none⟩) (by show bv ≠ wb; omega) (.int .i64 (q.texts - min (gs.size : Int) 1048577))
            refine ⟨⟨K10.cell 1, KB.cell 2⟩, I6.out.drew.far (by show w.heap.size + 1 ≠ wb; omega) _, ?_, (Only.of_ext IE.out).drew.setCell (.inl rfl) _, K10, KB⟩
            have := (Blk.drew IW.out).set_ 1 (.int .i64 (q.texts - min (gs.size : Int) 1048577))
            simpa using this)
          have YF : Hid (∀ w3 x0 x1 x2 x3, Blk w3 (w.heap.size + 1) 25 #[.int .i64 0, .int .i64 0, .string ⟨#[]⟩, .slice none 0 0] ∧ WAt w3 wb g ⟨q.items, (q.texts - min (gs.size : Int) 1048577)⟩ ∧ Only wb w w3 ∧ Blk w3 b10 141 #[.string ⟨#[111, 107]⟩, .int .i64 1] ∧ Blk w3 bv 34 #[.int .i64 3, .int .i64 gn, .string gs] → (fun w' => w'.cell? ⟨b10, 1, none⟩ = some (.int .i64 1) ∧ w'.cell? ⟨bv, 2, none⟩ = some (.string gs)) ((((w3.setCell ⟨w.heap.size + 1, 0, none⟩ x0).setCell ⟨w.heap.size + 1, 1, none⟩ x1).setCell ⟨w.heap.size + 1, 2, none⟩ x2).setCell ⟨w.heap.size + 1, 3, none⟩ x3) ∧ Blk ((((w3.setCell ⟨w.heap.size + 1, 0, none⟩ x0).setCell ⟨w.heap.size + 1, 1, none⟩ x1).setCell ⟨w.heap.size + 1, 2, none⟩ x2).setCell ⟨w.heap.size + 1, 3, none⟩ x3) (w.heap.size + 1) 25 #[x0, x1, x2, x3] ∧ (WAt ((((w3.setCell ⟨w.heap.size + 1, 0, none⟩ x0).setCell ⟨w.heap.size + 1, 1, none⟩ x1).setCell ⟨w.heap.size + 1, 2, none⟩ x2).setCell ⟨w.heap.size + 1, 3, none⟩ x3) wb g ⟨q.items, (q.texts - min (gs.size : Int) 1048577)⟩ ∧ Only wb w ((((w3.setCell ⟨w.heap.size + 1, 0, none⟩ x0).setCell ⟨w.heap.size + 1, 1, none⟩ x1).setCell ⟨w.heap.size + 1, 2, none⟩ x2).setCell ⟨w.heap.size + 1, 3, none⟩ x3))) := Lib.hid (by
            rintro w3 x0 x1 x2 x3 ⟨h1, h2, h3, h4, h5⟩
            exact ⟨⟨(far4 h4 (by omega) _ _ _ _).cell 1, (far4 h5 (by omega) _ _ _ _).cell 2⟩, put4 h1 _ _ _ _, far4 h2 (by omega) _ _ _ _, only4 h3 (by omega) _ _ _ _⟩)
          have YES : Hid (0 ≤ (q.texts - min (gs.size : Int) 1048577) → ∀ Q, WAt Q wb g ⟨q.items, (q.texts - min (gs.size : Int) 1048577)⟩ ∧ Only wb w Q → BepE w wb g d r (.returned (.agg #[.int .i64 1, .int .i64 0, .string gs, .slice none 0 0])) Q) := Lib.hid (fun hs Q hQ => by
            rw [RR.out]
            unfold textP
            rw [if_pos hs]
            exact ⟨hQ.2, _, rfl, nilR _ _ _ _ _ _, hQ.1⟩)
          have NO : Hid (¬ 0 ≤ (q.texts - min (gs.size : Int) 1048577) → BepE w wb g d r (.panicked [{ v := bfailV sReply, recovered := false }]) (wx.drew.setCell ⟨wb, 1, none⟩ (.int .i64 (q.texts - min (gs.size : Int) 1048577)))) := Lib.hid (fun hs => by
            rw [RR.out]
            unfold textP
            rw [if_neg hs]
            exact ⟨(XF.out _ rfl).2.2.2.1, rfl⟩)
          have dd := Lib.hid (show (fun w' => w'.cell? ⟨b10, 1, none⟩ = some (.int .i64 1) ∧ w'.cell? ⟨bv, 2, none⟩ = some (.string gs)) wx.drew from ⟨I10.out.drew.cell 1, IB.out.drew.cell 2⟩)
          refine wp_region_held_drew (S := fun w' => w'.cell? ⟨b10, 1, none⟩ = some (.int .i64 1) ∧ w'.cell? ⟨bv, 2, none⟩ = some (.string gs)) (by kernel_rfl) dd.out (fun hHeld => ?_)
          refine wpAnyH_take (i := 0) (v := ?_) rfl (by kernel_rfl) (by kernel_rfl) (by kernel_rfl) (fun _ _ _ h => h) (Or.inl ⟨by rfl, (by intro w hSw; (try dsimp only at hSw); go_simp; first | done | with_reducible rfl)⟩) (by assumption) ?_
          (try simp only [Act.put, List.setIfInBounds_toArray, List.set_cons_zero, List.set_cons_succ])
          refine wpAnyH_take (i := 1) (v := ?_) rfl (by kernel_rfl) (by kernel_rfl) (by kernel_rfl) (fun _ _ _ h => h) (Or.inl ⟨by rfl, (by intro w hSw; (try dsimp only at hSw); go_simp; first | done | with_reducible rfl)⟩) (by assumption) ?_
          (try simp only [Act.put, List.setIfInBounds_toArray, List.set_cons_zero, List.set_cons_succ])
          refine wpAnyH_take (i := 2) (v := ?_) rfl (by kernel_rfl) (by kernel_rfl) (by kernel_rfl) (fun _ _ _ h => h) (Or.inl ⟨by rfl, (by intro w hSw; (try dsimp only at hSw); go_simp; first | done | with_reducible rfl)⟩) (by assumption) ?_
          (try simp only [Act.put, List.setIfInBounds_toArray, List.set_cons_zero, List.set_cons_succ])
          refine wpAnyH_take (i := 3) (v := ?_) rfl (by kernel_rfl) (by kernel_rfl) (by kernel_rfl) (fun _ _ _ h => h) (Or.inl ⟨by rfl, (by intro w hSw; (try dsimp only at hSw); go_simp; first | done | with_reducible rfl)⟩) (by assumption) ?_
          (try simp only [Act.put, List.setIfInBounds_toArray, List.set_cons_zero, List.set_cons_succ])
          refine wpAnyH_take (i := 4) (v := ?_) rfl (by kernel_rfl) (by kernel_rfl) (by kernel_rfl) (fun _ _ _ h => h) (Or.inl ⟨by rfl, (by intro w hSw; (try dsimp only at hSw); go_simp; first | done | with_reducible rfl)⟩) (by assumption) ?_
          (try simp only [Act.put, List.setIfInBounds_toArray, List.set_cons_zero, List.set_cons_succ])
          refine wpAnyH_take (i := 5) (v := ?_) rfl (by kernel_rfl) (by kernel_rfl) (by kernel_rfl) (fun _ _ _ h => h) (Or.inl ⟨by rfl, (by intro w hSw; (try dsimp only at hSw); go_simp; first | done | with_reducible rfl)⟩) (by assumption) ?_
          (try simp only [Act.put, List.setIfInBounds_toArray, List.set_cons_zero, List.set_cons_succ])
          refine wpAnyH_take (i := 6) (v := ?_) rfl (by kernel_rfl) (by kernel_rfl) (by kernel_rfl) (fun _ _ _ h => h) (Or.inl ⟨by rfl, (by intro w hSw; (try dsimp only at hSw); go_simp; first | done | with_reducible rfl)⟩) (by assumption) ?_
          (try simp only [Act.put, List.setIfInBounds_toArray, List.set_cons_zero, List.set_cons_succ])
          refine wpAnyH_ready (rs := [7]) (by kernel_rfl) (by simp) ?_
          refine AllReadyH.cons rfl (fun K hK => ?_) ?_
          · skip
            go_simp
            rcases Decidable.em (0 ≤ (q.texts - min (gs.size : Int) 1048577)) with hs | hs
            rotate_left
            · refine (HT.out _ HW.out).mono ?_
              rintro e w3 ⟨-, he, rfl⟩
              have he := he (by omega)
              unfold Fails at he
              subst he
              exact ⟨rfl, NO.out (by omega)⟩
            refine (HT.out _ HW.out).mono ?_
            rintro e w3 ⟨he, -, hw3⟩
            obtain rfl := he (by omega)
            have X3 := Lib.hid (XF.out _ hw3)
            clear he hw3
            clear hHeld
            refine hK.out _ _ (X3.out.1) (fun hHeld => ?_)
            clear hK K
            (try simp only [Act.put, List.setIfInBounds_toArray, List.set_cons_zero, List.set_cons_succ])
            refine wpAnyH_take (i := 8) (v := ?_) rfl (by kernel_rfl) (by kernel_rfl) (by kernel_rfl) (fun _ _ _ h => h) (Or.inl ⟨by rfl, (by intro w hSw; (try dsimp only at hSw); go_simp; first | done | with_reducible rfl)⟩) (by assumption) ?_
            (try simp only [Act.put, List.setIfInBounds_toArray, List.set_cons_zero, List.set_cons_succ])
            refine wpAnyH_ready (rs := [9]) (by kernel_rfl) (by simp) ?_
            refine AllReadyH.cons rfl (fun K hK => ?_) ?_
            · skip
              obtain ⟨z0, z1, z2, z3, y0, y1, y2, y3⟩ := four X3.out.2.1
              have hl3 := X3.out.2.1.lt
              go_simp
              have Y3 := Lib.hid (YF.out w3 (.int .i64 1) (.int .i64 0) (.string gs) (.slice none 0 0) X3.out.2)
              clear hHeld
              refine hK.out _ _ (Y3.out.1) (fun hHeld => ?_)
              clear hK K
              (try simp only [Act.put, List.setIfInBounds_toArray, List.set_cons_zero, List.set_cons_succ])
              refine wpAnyH_done (by kernel_rfl) ?_ _
              go_wp2_with fail
              obtain ⟨z0, z1, z2, z3, _⟩ := four Y3.out.2.1
              exact bodyPost_ret (v := .agg #[.int .i64 1, .int .i64 0, .string gs, .slice none 0 0]) (by simp [results, Tryz.results72, go_sem, *]) rfl (YES.out (by omega) _ Y3.out.2.2)
            · skip
              exact AllReadyH.nil
          · skip
            exact AllReadyH.nil
        · have hk4 : (gk == 3) = false := by simpa using hk3
          have EE := Lib.hid (A1.out.trans HXX.out.2.1)
          have HN3 : Hid ((0 < 2 → ¬ (getV H v (tK sErr)).k = 3) ∧ (1 < 2 → ¬ (getV H v (tK sOk)).k = 3)) := Lib.hid (⟨fun _ => HN2.out.1 (by decide), fun _ => by rw [HGV.out]; exact hk3⟩)
          clear HXX hk3
          go_wp2_with fail
          go_roundw
          case rel => exact ⟨2, by go_num, by omega, EE, HN3⟩
          case measure => simp [intOf]
    · have HNE := Lib.hid (HN2.out.1 (by decide))
      have HNK := Lib.hid (HN2.out.2 (by decide))
      clear HN2
      have L4 := Lib.hid (G4.out.ext HX.out)
      have L6 := Lib.hid (G6.out.ext HX.out)
      have LI := Lib.hid (GI.out.ext HX.out)
      have LW := Lib.hid (Blk.ext GW.out HX.out)
      have LE := Lib.hid (G1.out.trans HX.out)
      clear G1 G4 G6 GI GW HX SB
      go_wp2_with fail
      rcases Nat.eq_zero_or_pos d with hd0 | hd0
      · have hdz : decide (0 < d) = false := decide_eq_false (by omega)
        rw [hdz]
        refine (bmust_no _ _).mono ?_
        rintro e w3 ⟨he, rfl⟩
        unfold Fails at he
        subst he
        have RR : Hid (r = .error sReply) := Lib.hid (by
          rw [← HR.out, hd0]
          unfold tableP
          rw [if_pos HLW.out, if_neg HNE.out, if_neg HNK.out]
          rfl)
        go_wp2_with fail
        exact ⟨rfl, by rw [RR.out]; exact ⟨.of_ext LE.out, rfl⟩⟩
      have hdz : decide (0 < d) = true := decide_eq_true hd0
      obtain ⟨en, hen⟩ : ∃ en, d = en + 1 := ⟨d - 1, by omega⟩
      have HEN := Lib.hid hen
      have REPD := Lib.hid (HIH.out en hen)
      rw [hdz]
      refine (bmust_yes _ _).mono ?_
      rintro e w3 ⟨rfl, rfl⟩
      obtain ⟨N, hN⟩ : ∃ N : Nat, ln = N := ⟨ln.toNat, by omega⟩
      subst hN
      obtain ⟨ρ, hρ⟩ : ∃ ρ, rowP (repP H en) H v N 0 ⟨q.items - N, q.texts⟩ = ρ := ⟨_, rfl⟩
      have RY : Hid (0 ≤ q.items - (N : Int) → r = listX ρ) := Lib.hid (fun hi => by
        rw [← HR.out, hen]
        unfold tableP
        rw [if_pos HLW.out, if_neg HNE.out, if_neg HNK.out]
        simp only [subF]
        rw [HLN.out, if_pos hi, Int.toNat_natCast, hρ]
        clear hρ
        rcases ρ with e | ⟨l, q'⟩ <;> rfl)
      have RN : Hid (¬ 0 ≤ q.items - (N : Int) → r = .error sReply) := Lib.hid (fun hi => by
        rw [← HR.out, hen]
        unfold tableP
        rw [if_pos HLW.out, if_neg HNE.out, if_neg HNK.out]
        simp only [subF]
        rw [HLN.out, if_neg hi])
      have HRH := Lib.hid hρ
      have HITEM := Lib.hid (item_do wr wb g q HQ.out LW.out (N : Int) hn0 hn1)
      clear hρ hdz hd0 hen HIH HR HNE HNK
      go_wp2_with fail
      refine HITEM.out.mono ?_
      rintro e w3 ⟨hy, hno, hw3⟩
      rcases Decidable.em (0 ≤ q.items - (N : Int)) with hi | hi
      rotate_left
      · have he := hno (by omega)
        unfold Fails at he
        subst he
        have RR := Lib.hid (RN.out (by omega))
        subst hw3
        go_wp2_with fail
        exact ⟨rfl, by rw [RR.out]; exact ⟨(Only.of_ext LE.out).setCell (.inl rfl) _, rfl⟩⟩
      obtain rfl := hy (by omega)
      have RR := Lib.hid (RY.out (by omega))
      have M4 : Hid (Blk w3 w.heap.size 34 #[.int .i64 v.k, .int .i64 v.n, .string v.s]) := Lib.hid (by rw [hw3]; exact L4.out.far (by show w.heap.size ≠ wb; omega) _)
      have M6 : Hid (Blk w3 (w.heap.size + 1) 25 #[.int .i64 0, .int .i64 0, .string ⟨#[]⟩, .slice none 0 0]) := Lib.hid (by rw [hw3]; exact L6.out.far (by show w.heap.size + 1 ≠ wb; omega) _)
      have MW : Hid (WAt w3 wb g ⟨q.items - (N : Int), q.texts⟩) := Lib.hid (by
        have := Blk.set_ LW.out 0 (.int .i64 (q.items - (N : Int)))
        rw [hw3]
        simpa using this)
      have MO : Hid (Only wb w w3) := Lib.hid (by rw [hw3]; exact (Only.of_ext LE.out).setCell (.inl rfl) _)
      clear hw3 hy hno RY RN HITEM L4 L6 LW LE LI
      go_wp2_with fail
      have ex := (Ext.refl w3).alloc (.cells #[.int .i64 5, .int .i64 0, .string ⟨#[]⟩, .slice none 0 0] 25)
      have P4 := Lib.hid (M4.out.ext ex)
      have P6 := Lib.hid (M6.out.ext ex)
      have PW := Lib.hid (Blk.ext MW.out ex)
      have PO := Lib.hid (MO.out.ext ex)
      have PB := Lib.hid (Blk.new w3 25 #[.int .i64 5, .int .i64 0, .string ⟨#[]⟩, .slice none 0 0])
      have PS : Hid ((w3.alloc (.cells #[.int .i64 5, .int .i64 0, .string ⟨#[]⟩, .slice none 0 0] 25)).heap.size = w3.heap.size + 1) := Lib.hid (size_alloc _ _)
      have hout := M6.out.lt
      generalize w3.alloc (.cells #[.int .i64 5, .int .i64 0, .string ⟨#[]⟩, .slice none 0 0] 25) = w5 at *
      obtain ⟨out, hoe⟩ : ∃ out, w3.heap.size = out := ⟨_, rfl⟩
      rw [hoe] at PB PS hout ⊢
      have hps := PS.out
      have HL0 : Hid (LsB w w5 wb g out (out + 1) H v en N 0 (.slice none 0 0) [] ⟨q.items - (N : Int), q.texts⟩ ρ) := Lib.hid
        ⟨PO.out, PW.out, ⟨hi, by have := HQ.out.i1; show q.items - (N : Int) ≤ 65536; omega, HQ.out.t0, HQ.out.t1⟩, PB.out, ⟨rfl, .inl ⟨rfl, rfl⟩⟩, (fun x hx => by cases hx), by omega, rfl, by
          rw [Nat.sub_zero, HRH.out]
          cases ρ <;> rfl⟩
      have HWB := Lib.hid hwb
      have HOUT : Hid (w.heap.size ≤ out) := Lib.hid (by omega)
      clear ex M4 M6 MW MO PO PW PB PS hoe
      go_loopw [70] (fun v70 wr => ∃ k : Nat, v70 = .int .i64 k ∧ k ≤ N ∧ Hid (∃ lv xs qc, LsB w wr wb g out (out + 1) H v en N k lv xs qc ρ) ∧ Hid (Blk wr w.heap.size 34 #[.int .i64 v.k, .int .i64 v.n, .string v.s]) ∧ Hid (Blk wr (w.heap.size + 1) 25 #[.int .i64 0, .int .i64 0, .string ⟨#[]⟩, .slice none 0 0])) (fun v70 _ => N - (intOf v70).toNat)
      case atStart => exact ⟨0, rfl, Nat.zero_le _, Lib.hid ⟨_, _, _, HL0.out⟩, P4, P6⟩
      case round =>
        obtain ⟨k, rfl, hk, HXX, BV, BR⟩ := hrel
        obtain ⟨lv, xs, qc, hP⟩ := HXX.out
        have HP := Lib.hid hP
        clear HXX hP HL0 P4 P6
        by_cases hkN : k < N
        · have HKN := Lib.hid hkN
          obtain ⟨gv, hgv⟩ : ∃ gv, getV H v (iK ((k : Int) + 1)) = gv := ⟨_, rfl⟩
          have hgc := fun (Z : World) (hZ : HeapIn Z g tv rs H) => get_any g tv rs H v (iK ((k : Int) + 1)) Z hZ HLEN.out ⟨by show (-9223372036854775808 : Int) ≤ (k : Int) + 1; omega, by show (k : Int) + 1 ≤ 9223372036854775807; omega⟩
          rw [getW_num HO.out, hgv] at hgc
          have HG := Lib.hid hgc
          have hg64 := (getV_ok HOKH.out v (iK ((k : Int) + 1))).1
          rw [hgv] at hg64
          have HI2 : Hid (HeapIn wr g tv rs H) := Lib.hid (HH0.out.of_heap fun j hj => HP.out.only.block j (HH0.out.low hj) (fun e => NW.out (Option.some.inj e ▸ hj)))
          have HREP : Hid (∀ Q, Ext wr Q → WAt Q wb g qc → Calls Tryz.prog 49 #[.pointer (some ⟨wb, 0, none⟩), gv.v, .int .i64 (en : Int)] Q (BepE Q wb g en (repP H en qc gv))) := Lib.hid (fun Q hQ hW => REPD.out Q g tv rs H (HI2.out.ext hQ) HLEN.out wb qc HP.out.qok hW NW.out gv hg64)
          obtain ⟨ρ1, hρ1⟩ : ∃ ρ1, repP H en qc gv = ρ1 := ⟨_, rfl⟩
          rw [hρ1] at HREP
          have HRHO : Hid ((∃ why, ρ1 = .error why) ∨ ∃ x q1, ρ1 = .ok (x, q1)) := Lib.hid (by
            cases ρ1 with
            | error why => exact .inl ⟨why, rfl⟩
            | ok y => exact .inr ⟨y.1, y.2, rfl⟩)
          have HX1 : Hid (repP H en qc (getV H v (iK ((k : Int) + 1))) = ρ1) := Lib.hid (by rw [hgv]; exact hρ1)
          have NOR : Hid (∀ why, ρ1 = .error why → ∀ Q, Only wb wr Q → BepE w wb g d r (.panicked [{ v := bfailV why, recovered := false }]) Q) := Lib.hid (fun why hw Q hQ => by
            have h1 := HP.out.fails HKN.out (HX1.out.trans hw)
            rw [RR.out, h1]
            exact ⟨HP.out.only.trans hQ, rfl⟩)
          obtain ⟨gk, gn, gs⟩ := gv
          have HROW : Hid (∀ y, lv.ownBlock = some y → out + 1 ≤ y) := Lib.hid (fun y hy => (HP.out.own.lt y hy).1)
          obtain ⟨i0, hi0, hz0, hz1, hz2⟩ := info_parts infoRep
          have LB := HP.out.box.cell 3
          simp only [List.getElem?_toArray, List.getElem?_cons_zero, List.getElem?_cons_succ] at LB
          have LZ := HP.out.box.frozen 3
          have LL := HP.out.box.lt
          have OWN := Lib.hid HP.out.own
          have IW := Lib.hid HP.out.walk
          have hbs := HP.out.bs
          have U := Lib.hid (Ext.refl wr).drew
          have hwd : IntKind.i64.wrap ((d : Int) - 1) = (en : Int) := by rw [IntWalk.i64_in _ (by have := HEN.out; omega)]; have := HEN.out; omega
          have hwk : IntKind.i64.wrap ((k : Int) + 1) = (k : Int) + 1 := IntWalk.i64_in _ (by omega)
          have ed := (Ext.refl wr).drew
          clear hgc hgv hg64 hρ1
          go_wp2_with fail
          replace OWN := Lib.hid (own_ext OWN.out ed)
          replace BV := Lib.hid (BV.out.ext ed)
          replace BR := Lib.hid (BR.out.ext ed)
          replace IW := Lib.hid (Blk.ext IW.out ed)
          replace LZ := (Ext.frozen' ed LL).trans LZ
          replace LB := ed.cell LB
          replace LL := Nat.lt_of_lt_of_le LL ed.le
          clear ed
          refine wp_region_held_drew (S := fun w' => w'.cell? ⟨wb, 2, none⟩ = some (.pointer (some ⟨g, 0, none⟩)) ∧ w'.cell? ⟨w.heap.size, 0, none⟩ = some (.int .i64 v.k) ∧ w'.cell? ⟨w.heap.size, 1, none⟩ = some (.int .i64 v.n) ∧ w'.cell? ⟨w.heap.size, 2, none⟩ = some (.string v.s)) (by kernel_rfl) ⟨IW.out.cell 2, BV.out.cell 0, BV.out.cell 1, BV.out.cell 2⟩ (fun hHeld => ?_)
          refine wpAnyH_take (i := 0) (v := ?_) rfl (by kernel_rfl) (by kernel_rfl) (by kernel_rfl) (fun _ _ _ h => h) (Or.inl ⟨by rfl, (by intro w hSw; (try dsimp only at hSw); go_simp; first | done | with_reducible rfl)⟩) (by assumption) ?_
          (try simp only [Act.put, List.setIfInBounds_toArray, List.set_cons_zero, List.set_cons_succ])
          refine wpAnyH_take (i := 2) (v := ?_) rfl (by kernel_rfl) (by kernel_rfl) (by kernel_rfl) (fun _ _ _ h => h) (Or.inl ⟨by rfl, (by intro w hSw; (try dsimp only at hSw); go_simp; first | done | with_reducible rfl)⟩) (by assumption) ?_
          (try simp only [Act.put, List.setIfInBounds_toArray, List.set_cons_zero, List.set_cons_succ])
          refine wpAnyH_take (i := 3) (v := ?_) rfl (by kernel_rfl) (by kernel_rfl) (by kernel_rfl) (fun _ _ _ h => h) (Or.inl ⟨by rfl, (by intro w hSw; (try dsimp only at hSw); go_simp; first | done | with_reducible rfl)⟩) (by assumption) ?_
          (try simp only [Act.put, List.setIfInBounds_toArray, List.set_cons_zero, List.set_cons_succ])
          refine wpAnyH_take (i := 4) (v := ?_) rfl (by kernel_rfl) (by kernel_rfl) (by kernel_rfl) (fun _ _ _ h => h) (Or.inl ⟨by rfl, (by intro w hSw; (try dsimp only at hSw); go_simp; first | done | with_reducible rfl)⟩) (by assumption) ?_
          (try simp only [Act.put, List.setIfInBounds_toArray, List.set_cons_zero, List.set_cons_succ])
          refine wpAnyH_take (i := 5) (v := ?_) rfl (by kernel_rfl) (by kernel_rfl) (by kernel_rfl) (fun _ _ _ h => h) (Or.inl ⟨by rfl, (by intro w hSw; (try dsimp only at hSw); go_simp; first | done | with_reducible rfl)⟩) (by assumption) ?_
          (try simp only [Act.put, List.setIfInBounds_toArray, List.set_cons_zero, List.set_cons_succ])
          refine wpAnyH_take (i := 6) (v := ?_) rfl (by kernel_rfl) (by kernel_rfl) (by kernel_rfl) (fun _ _ _ h => h) (Or.inl ⟨by rfl, (by intro w hSw; (try dsimp only at hSw); go_simp; first | done | with_reducible rfl)⟩) (by assumption) ?_
          (try simp only [Act.put, List.setIfInBounds_toArray, List.set_cons_zero, List.set_cons_succ])
          refine wpAnyH_take (i := 7) (v := ?_) rfl (by kernel_rfl) (by kernel_rfl) (by kernel_rfl) (fun _ _ _ h => h) (Or.inl ⟨by rfl, (by intro w hSw; (try dsimp only at hSw); go_simp; first | done | with_reducible rfl)⟩) (by assumption) ?_
          (try simp only [Act.put, List.setIfInBounds_toArray, List.set_cons_zero, List.set_cons_succ])
          refine wpAnyH_take (i := 8) (v := ?_) rfl (by kernel_rfl) (by kernel_rfl) (by kernel_rfl) (fun _ _ _ h => h) (Or.inl ⟨by rfl, (by intro w hSw; (try dsimp only at hSw); go_simp; first | done | with_reducible rfl)⟩) (by assumption) ?_
          (try simp only [Act.put, List.setIfInBounds_toArray, List.set_cons_zero, List.set_cons_succ])
          refine wpAnyH_take (i := 9) (v := ?_) rfl (by kernel_rfl) (by kernel_rfl) (by kernel_rfl) (fun _ _ _ h => h) (Or.inl ⟨by rfl, (by intro w hSw; (try dsimp only at hSw); go_simp; first | done | with_reducible rfl)⟩) (by assumption) ?_
          (try simp only [Act.put, List.setIfInBounds_toArray, List.set_cons_zero, List.set_cons_succ])
          refine wpAnyH_take (i := 15) (v := ?_) rfl (by kernel_rfl) (by kernel_rfl) (by kernel_rfl) (fun _ _ _ h => h) (Or.inl ⟨by rfl, (by intro w hSw; (try dsimp only at hSw); go_simp; first | done | with_reducible rfl)⟩) (by assumption) ?_
          (try simp only [Act.put, List.setIfInBounds_toArray, List.set_cons_zero, List.set_cons_succ])
          refine wpAnyH_take (i := 16) (v := ?_) rfl (by kernel_rfl) (by kernel_rfl) (by kernel_rfl) (fun _ _ _ h => h) (Or.inl ⟨by rfl, (by intro w hSw; (try dsimp only at hSw); go_simp; first | done | with_reducible rfl)⟩) (by assumption) ?_
          (try simp only [Act.put, List.setIfInBounds_toArray, List.set_cons_zero, List.set_cons_succ])
          refine wpAnyH_ready (rs := [1, 10]) (by kernel_rfl) (by simp) ?_
          refine AllReadyH.cons rfl (fun K hK => ?_) ?_
          · skip
            go_simp
            clear hHeld
            refine hK.out _ _ (⟨IW.out.cell 2, BV.out.cell 0, BV.out.cell 1, BV.out.cell 2⟩) (fun hHeld => ?_)
            clear hK K
            (try simp only [Act.put, List.setIfInBounds_toArray, List.set_cons_zero, List.set_cons_succ])
            refine wpAnyH_ready (rs := [10]) (by kernel_rfl) (by simp) ?_
            refine AllReadyH.cons rfl (fun K hK => ?_) ?_
            · skip
              go_simp
              refine (int_any _ _).mono ?_
              rintro e wp ⟨rfl, e3⟩
              replace U := Lib.hid (U.out.trans e3)
              replace OWN := Lib.hid (own_ext OWN.out e3)
              replace BV := Lib.hid (BV.out.ext e3)
              replace BR := Lib.hid (BR.out.ext e3)
              replace IW := Lib.hid (Blk.ext IW.out e3)
              replace LZ := (Ext.frozen' e3 LL).trans LZ
              replace LB := e3.cell LB
              replace LL := Nat.lt_of_lt_of_le LL e3.le
              clear e3
              clear hHeld
              refine hK.out _ _ (⟨IW.out.cell 2, BV.out.cell 0, BV.out.cell 1, BV.out.cell 2⟩) (fun hHeld => ?_)
              clear hK K
              (try simp only [Act.put, List.setIfInBounds_toArray, List.set_cons_zero, List.set_cons_succ])
              refine wpAnyH_ready (rs := [11]) (by kernel_rfl) (by simp) ?_
              refine AllReadyH.cons rfl (fun K hK => ?_) ?_
              · skip
                go_simp
                refine (HG.out _ (HI2.out.ext U.out)).mono ?_
                rintro e wq ⟨rfl, e4⟩
                replace U := Lib.hid (U.out.trans e4)
                replace OWN := Lib.hid (own_ext OWN.out e4)
                replace BV := Lib.hid (BV.out.ext e4)
                replace BR := Lib.hid (BR.out.ext e4)
                replace IW := Lib.hid (Blk.ext IW.out e4)
                replace LZ := (Ext.frozen' e4 LL).trans LZ
                replace LB := e4.cell LB
                replace LL := Nat.lt_of_lt_of_le LL e4.le
                clear e4
                clear hHeld
                refine hK.out _ _ (⟨IW.out.cell 2, BV.out.cell 0, BV.out.cell 1, BV.out.cell 2⟩) (fun hHeld => ?_)
                clear hK K
                (try simp only [Act.put, List.setIfInBounds_toArray, List.set_cons_zero, List.set_cons_succ])
                refine wpAnyH_take (i := 12) (v := ?_) rfl (by kernel_rfl) (by kernel_rfl) (by kernel_rfl) (fun _ _ _ h => h) (Or.inl ⟨by rfl, (by intro w hSw; (try dsimp only at hSw); go_simp; first | done | with_reducible rfl)⟩) (by assumption) ?_
                (try simp only [Act.put, List.setIfInBounds_toArray, List.set_cons_zero, List.set_cons_succ])
                refine wpAnyH_take (i := 13) (v := ?_) rfl (by kernel_rfl) (by kernel_rfl) (by kernel_rfl) (fun _ _ _ h => h) (Or.inl ⟨by rfl, (by intro w hSw; (try dsimp only at hSw); go_simp; first | done | with_reducible rfl)⟩) (by assumption) ?_
                (try simp only [Act.put, List.setIfInBounds_toArray, List.set_cons_zero, List.set_cons_succ])
                refine wpAnyH_ready (rs := [14]) (by kernel_rfl) (by simp) ?_
                refine AllReadyH.cons rfl (fun K hK => ?_) ?_
                · skip
                  go_simp
                  refine (got_yes ⟨gk, gn, gs⟩ _).mono ?_
                  rintro e ws ⟨rfl, e5⟩
                  replace U := Lib.hid (U.out.trans e5)
                  replace OWN := Lib.hid (own_ext OWN.out e5)
                  replace BV := Lib.hid (BV.out.ext e5)
                  replace BR := Lib.hid (BR.out.ext e5)
                  replace IW := Lib.hid (Blk.ext IW.out e5)
                  replace LZ := (Ext.frozen' e5 LL).trans LZ
                  replace LB := e5.cell LB
                  replace LL := Nat.lt_of_lt_of_le LL e5.le
                  clear e5
                  clear hHeld
                  refine hK.out _ _ (⟨IW.out.cell 2, BV.out.cell 0, BV.out.cell 1, BV.out.cell 2⟩) (fun hHeld => ?_)
                  clear hK K
                  (try simp only [Act.put, List.setIfInBounds_toArray, List.set_cons_zero, List.set_cons_succ])
                  refine wpAnyH_ready (rs := [17]) (by kernel_rfl) (by simp) ?_
                  refine AllReadyH.cons rfl (fun K hK => ?_) ?_
                  · skip
                    go_simp
                    refine (HREP.out _ U.out IW.out).mono ?_
                    intro e w4 hB
                    rcases HRHO.out with ⟨why, hwy⟩ | ⟨x, q1, hx⟩
                    · rw [hwy] at hB
                      obtain ⟨o4, he⟩ := hB
                      have he : Fails why e := he
                      unfold Fails at he
                      subst he
                      exact ⟨rfl, NOR.out why hwy _ ((Only.of_ext U.out).trans o4)⟩
                    rw [hx] at hB
                    obtain ⟨o4, rv, he, ⟨lv0, hrv, hv4⟩, wa4⟩ := hB
                    subst he
                    subst hrv
                    obtain ⟨q9, c9, hq9⟩ := hv4.slice
                    subst hq9
                    have O4 := Lib.hid ((Only.of_ext U.out).trans o4)
                    have V4 := Lib.hid (hv4.keep (fun _ _ _ _ hc => hc) (fun b _ (hb : _ ≤ b) => (Nat.le_trans U.out.le hb : wr.heap.size ≤ b)))
                    replace OWN := Lib.hid (own_only OWN.out o4 (by omega))
                    replace BV := Lib.hid (show Blk w4 w.heap.size 34 #[.int .i64 v.k, .int .i64 v.n, .string v.s] from (o4.block w.heap.size BV.out.lt (Only.ne_some (by omega))).trans BV.out)
                    replace BR := Lib.hid (show Blk w4 (w.heap.size + 1) 25 #[.int .i64 0, .int .i64 0, .string ⟨#[]⟩, .slice none 0 0] from (o4.block (w.heap.size + 1) BR.out.lt (Only.ne_some (by omega))).trans BR.out)
                    clear IW
                    have IW := Lib.hid wa4
                    have I4 := Lib.hid wa4
                    have HXY := Lib.hid hx
                    replace LZ := (o4.cells.2 _ _ LL (by omega)).trans LZ
                    replace LB := Only.cell o4 (by omega) LB
                    replace LL := Nat.lt_of_lt_of_le LL o4.le
                    clear o4 hv4 wa4 hx
                    clear hHeld
                    refine hK.out _ _ (⟨IW.out.cell 2, BV.out.cell 0, BV.out.cell 1, BV.out.cell 2⟩) (fun hHeld => ?_)
                    clear hK K
                    (try simp only [Act.put, List.setIfInBounds_toArray, List.set_cons_zero, List.set_cons_succ])
                    refine wpAnyH_ready (rs := [18]) (by kernel_rfl) (by simp) ?_
                    refine AllReadyH.cons rfl (fun K hK => ?_) ?_
                    · skip
                      go_simp
                      have e9 := (Ext.refl w4).alloc (.cells #[.int .i64 x.k, .int .i64 x.n, .string x.s, .slice q9 x.l.length c9] 25)
                      replace OWN := Lib.hid (own_ext OWN.out e9)
                      replace BV := Lib.hid (BV.out.ext e9)
                      replace BR := Lib.hid (BR.out.ext e9)
                      replace IW := Lib.hid (Blk.ext IW.out e9)
                      replace LZ := (Ext.frozen' e9 LL).trans LZ
                      replace LB := e9.cell LB
                      replace LL := Nat.lt_of_lt_of_le LL e9.le
                      clear e9
                      clear hHeld
                      refine hK.out _ _ (⟨IW.out.cell 2, BV.out.cell 0, BV.out.cell 1, BV.out.cell 2⟩) (fun hHeld => ?_)
                      clear hK K
                      (try simp only [Act.put, List.setIfInBounds_toArray, List.set_cons_zero, List.set_cons_succ])
                      refine wpAnyH_ready (rs := [19]) (by kernel_rfl) (by simp) ?_
                      refine AllReadyH.cons rfl (fun K hK => ?_) ?_
                      · skip
                        refine step_append_lies _ (by rfl) _ _ _ (by rfl) (out + 1) 25 i0 _ 4 56 Tryz.underlying23 hi0 hz0 hz1 hz2 rfl (by omega) lv k (xs.flatMap rowR) (by rfl) OWN.out ⟨w4.heap.size, 0, none⟩ 1 1 [.int .i64 x.k, .int .i64 x.n, .string x.s, .slice q9 x.l.length c9] (by rfl) (by rfl) (World.news_of_block (cs := #[.int .i64 x.k, .int .i64 x.n, .string x.s, .slice q9 x.l.length c9]) (t := 25) (fr := (0, 0)) (heap_alloc_new w4 _)) (by simp [Value.oneCell']) (by omega) (by unfold maxLen; omega) (by omega) (by omega) (w4.heap.size + 1) (by simp) ?_
                        intro gg gcap w5 hown1 hgrow hat hltg
                        have hrw5 : ∀ y, lv.ownBlock = some y → out + 1 ≤ y := fun y hy => (HROW.out y hy)
                        replace LZ := (hgrow.frozen_far ⟨out, 3, none⟩ (by show out < _; omega) (fun e => by have h9 : out + 1 ≤ out := hrw5 _ e.symm; omega)).trans LZ
                        replace LB := (hgrow.cell_far ⟨out, 3, none⟩ (by show out < _; omega) (fun e => by have h9 : out + 1 ≤ out := hrw5 _ e.symm; omega)).trans LB
                        replace BV := Lib.hid (Blk.grown BV.out hgrow (fun y hy => by have := hrw5 y hy; omega))
                        replace BR := Lib.hid (Blk.grown BR.out hgrow (fun y hy => by have := hrw5 y hy; omega))
                        replace IW := Lib.hid (Blk.grown IW.out hgrow (fun y hy => by have := hrw5 y hy; omega))
                        replace LL := Nat.lt_of_lt_of_le LL hgrow.size
                        have OW5 := Lib.hid hown1
                        have G5 := Lib.hid hgrow
                        have HT5 := Lib.hid hat
                        clear hown1 hgrow hat hltg
                        clear hHeld
                        refine hK.out _ _ (⟨IW.out.cell 2, BV.out.cell 0, BV.out.cell 1, BV.out.cell 2⟩) (fun hHeld => ?_)
                        clear hK K
                        (try simp only [Act.put, List.setIfInBounds_toArray, List.set_cons_zero, List.set_cons_succ])
                        refine wpAnyH_take (i := 20) (v := ?_) rfl (by kernel_rfl) (by kernel_rfl) (by kernel_rfl) (fun _ _ _ h => h) (Or.inl ⟨by rfl, (by intro w hSw; (try dsimp only at hSw); go_simp; first | done | with_reducible rfl)⟩) (by assumption) ?_
                        (try simp only [Act.put, List.setIfInBounds_toArray, List.set_cons_zero, List.set_cons_succ])
                        refine wpAnyH_ready (rs := [21]) (by kernel_rfl) (by simp) ?_
                        refine AllReadyH.cons rfl (fun K hK => ?_) ?_
                        · skip
                          go_simp
                          replace BV := Lib.hid (BV.out.far (p := ⟨out, 3, none⟩) (by show w.heap.size ≠ out; omega) (.slice (some ⟨gg, 0, none⟩) (k + 1) gcap))
                          replace BR := Lib.hid (BR.out.far (p := ⟨out, 3, none⟩) (by show w.heap.size + 1 ≠ out; omega) (.slice (some ⟨gg, 0, none⟩) (k + 1) gcap))
                          replace IW := Lib.hid (Blk.far IW.out (p := ⟨out, 3, none⟩) (by show wb ≠ out; omega) (.slice (some ⟨gg, 0, none⟩) (k + 1) gcap))
                          clear hHeld
                          refine hK.out _ _ (⟨IW.out.cell 2, BV.out.cell 0, BV.out.cell 1, BV.out.cell 2⟩) (fun hHeld => ?_)
                          clear hK K
                          (try simp only [Act.put, List.setIfInBounds_toArray, List.set_cons_zero, List.set_cons_succ])
                          refine wpAnyH_done (by kernel_rfl) ?_ _
                          have NX := Lib.hid (LsB.next HWB.out HOUT.out (show out < out + 1 by omega) HOKH.out HP.out HKN.out (HX1.out.trans HXY.out) O4.out V4.out I4.out OW5.out G5.out HT5.out)
                          clear LB LZ LL IW O4 V4 I4 OW5 G5 HT5 OWN
                          go_wp2_with fail
                          go_roundw
                          case rel => exact ⟨k + 1, by go_num, by omega, Lib.hid ⟨_, _, _, NX.out⟩, BV, BR⟩
                          case measure => simp [intOf]; omega
                        · skip
                          exact AllReadyH.nil
                      · skip
                        exact AllReadyH.nil
                    · skip
                      exact AllReadyH.nil
                  · skip
                    exact AllReadyH.nil
                · skip
                  exact AllReadyH.nil
              · skip
                exact AllReadyH.nil
            · skip
              exact AllReadyH.nil
          · skip
            refine AllReadyH.cons rfl (fun K hK => ?_) ?_
            · skip
              go_simp
              refine (int_any _ _).mono ?_
              rintro e wp ⟨rfl, e3⟩
              replace U := Lib.hid (U.out.trans e3)
              replace OWN := Lib.hid (own_ext OWN.out e3)
              replace BV := Lib.hid (BV.out.ext e3)
              replace BR := Lib.hid (BR.out.ext e3)
              replace IW := Lib.hid (Blk.ext IW.out e3)
              replace LZ := (Ext.frozen' e3 LL).trans LZ
              replace LB := e3.cell LB
              replace LL := Nat.lt_of_lt_of_le LL e3.le
              clear e3
              clear hHeld
              refine hK.out _ _ (⟨IW.out.cell 2, BV.out.cell 0, BV.out.cell 1, BV.out.cell 2⟩) (fun hHeld => ?_)
              clear hK K
              (try simp only [Act.put, List.setIfInBounds_toArray, List.set_cons_zero, List.set_cons_succ])
              refine wpAnyH_ready (rs := [1, 11]) (by kernel_rfl) (by simp) ?_
              refine AllReadyH.cons rfl (fun K hK => ?_) ?_
              · skip
                go_simp
                clear hHeld
                refine hK.out _ _ (⟨IW.out.cell 2, BV.out.cell 0, BV.out.cell 1, BV.out.cell 2⟩) (fun hHeld => ?_)
                clear hK K
                (try simp only [Act.put, List.setIfInBounds_toArray, List.set_cons_zero, List.set_cons_succ])
                refine wpAnyH_ready (rs := [11]) (by kernel_rfl) (by simp) ?_
                refine AllReadyH.cons rfl (fun K hK => ?_) ?_
                · skip
                  go_simp
                  refine (HG.out _ (HI2.out.ext U.out)).mono ?_
                  rintro e wq ⟨rfl, e4⟩
                  replace U := Lib.hid (U.out.trans e4)
                  replace OWN := Lib.hid (own_ext OWN.out e4)
                  replace BV := Lib.hid (BV.out.ext e4)
                  replace BR := Lib.hid (BR.out.ext e4)
                  replace IW := Lib.hid (Blk.ext IW.out e4)
                  replace LZ := (Ext.frozen' e4 LL).trans LZ
                  replace LB := e4.cell LB
                  replace LL := Nat.lt_of_lt_of_le LL e4.le
                  clear e4
                  clear hHeld
                  refine hK.out _ _ (⟨IW.out.cell 2, BV.out.cell 0, BV.out.cell 1, BV.out.cell 2⟩) (fun hHeld => ?_)
                  clear hK K
                  (try simp only [Act.put, List.setIfInBounds_toArray, List.set_cons_zero, List.set_cons_succ])
                  refine wpAnyH_take (i := 12) (v := ?_) rfl (by kernel_rfl) (by kernel_rfl) (by kernel_rfl) (fun _ _ _ h => h) (Or.inl ⟨by rfl, (by intro w hSw; (try dsimp only at hSw); go_simp; first | done | with_reducible rfl)⟩) (by assumption) ?_
                  (try simp only [Act.put, List.setIfInBounds_toArray, List.set_cons_zero, List.set_cons_succ])
                  refine wpAnyH_take (i := 13) (v := ?_) rfl (by kernel_rfl) (by kernel_rfl) (by kernel_rfl) (fun _ _ _ h => h) (Or.inl ⟨by rfl, (by intro w hSw; (try dsimp only at hSw); go_simp; first | done | with_reducible rfl)⟩) (by assumption) ?_
                  (try simp only [Act.put, List.setIfInBounds_toArray, List.set_cons_zero, List.set_cons_succ])
                  refine wpAnyH_ready (rs := [14]) (by kernel_rfl) (by simp) ?_
                  refine AllReadyH.cons rfl (fun K hK => ?_) ?_
                  · skip
                    go_simp
                    refine (got_yes ⟨gk, gn, gs⟩ _).mono ?_
                    rintro e ws ⟨rfl, e5⟩
                    replace U := Lib.hid (U.out.trans e5)
                    replace OWN := Lib.hid (own_ext OWN.out e5)
                    replace BV := Lib.hid (BV.out.ext e5)
                    replace BR := Lib.hid (BR.out.ext e5)
                    replace IW := Lib.hid (Blk.ext IW.out e5)
                    replace LZ := (Ext.frozen' e5 LL).trans LZ
                    replace LB := e5.cell LB
                    replace LL := Nat.lt_of_lt_of_le LL e5.le
                    clear e5
                    clear hHeld
                    refine hK.out _ _ (⟨IW.out.cell 2, BV.out.cell 0, BV.out.cell 1, BV.out.cell 2⟩) (fun hHeld => ?_)
                    clear hK K
                    (try simp only [Act.put, List.setIfInBounds_toArray, List.set_cons_zero, List.set_cons_succ])
                    refine wpAnyH_ready (rs := [17]) (by kernel_rfl) (by simp) ?_
                    refine AllReadyH.cons rfl (fun K hK => ?_) ?_
                    · skip
                      go_simp
                      refine (HREP.out _ U.out IW.out).mono ?_
                      intro e w4 hB
                      rcases HRHO.out with ⟨why, hwy⟩ | ⟨x, q1, hx⟩
                      · rw [hwy] at hB
                        obtain ⟨o4, he⟩ := hB
                        have he : Fails why e := he
                        unfold Fails at he
                        subst he
                        exact ⟨rfl, NOR.out why hwy _ ((Only.of_ext U.out).trans o4)⟩
                      rw [hx] at hB
                      obtain ⟨o4, rv, he, ⟨lv0, hrv, hv4⟩, wa4⟩ := hB
                      subst he
                      subst hrv
                      obtain ⟨q9, c9, hq9⟩ := hv4.slice
                      subst hq9
                      have O4 := Lib.hid ((Only.of_ext U.out).trans o4)
                      have V4 := Lib.hid (hv4.keep (fun _ _ _ _ hc => hc) (fun b _ (hb : _ ≤ b) => (Nat.le_trans U.out.le hb : wr.heap.size ≤ b)))
                      replace OWN := Lib.hid (own_only OWN.out o4 (by omega))
                      replace BV := Lib.hid (show Blk w4 w.heap.size 34 #[.int .i64 v.k, .int .i64 v.n, .string v.s] from (o4.block w.heap.size BV.out.lt (Only.ne_some (by omega))).trans BV.out)
                      replace BR := Lib.hid (show Blk w4 (w.heap.size + 1) 25 #[.int .i64 0, .int .i64 0, .string ⟨#[]⟩, .slice none 0 0] from (o4.block (w.heap.size + 1) BR.out.lt (Only.ne_some (by omega))).trans BR.out)
                      clear IW
                      have IW := Lib.hid wa4
                      have I4 := Lib.hid wa4
                      have HXY := Lib.hid hx
                      replace LZ := (o4.cells.2 _ _ LL (by omega)).trans LZ
                      replace LB := Only.cell o4 (by omega) LB
                      replace LL := Nat.lt_of_lt_of_le LL o4.le
                      clear o4 hv4 wa4 hx
                      clear hHeld
                      refine hK.out _ _ (⟨IW.out.cell 2, BV.out.cell 0, BV.out.cell 1, BV.out.cell 2⟩) (fun hHeld => ?_)
                      clear hK K
                      (try simp only [Act.put, List.setIfInBounds_toArray, List.set_cons_zero, List.set_cons_succ])
                      refine wpAnyH_ready (rs := [18]) (by kernel_rfl) (by simp) ?_
                      refine AllReadyH.cons rfl (fun K hK => ?_) ?_
                      · skip
                        go_simp
                        have e9 := (Ext.refl w4).alloc (.cells #[.int .i64 x.k, .int .i64 x.n, .string x.s, .slice q9 x.l.length c9] 25)
                        replace OWN := Lib.hid (own_ext OWN.out e9)
                        replace BV := Lib.hid (BV.out.ext e9)
                        replace BR := Lib.hid (BR.out.ext e9)
                        replace IW := Lib.hid (Blk.ext IW.out e9)
                        replace LZ := (Ext.frozen' e9 LL).trans LZ
                        replace LB := e9.cell LB
                        replace LL := Nat.lt_of_lt_of_le LL e9.le
                        clear e9
                        clear hHeld
                        refine hK.out _ _ (⟨IW.out.cell 2, BV.out.cell 0, BV.out.cell 1, BV.out.cell 2⟩) (fun hHeld => ?_)
                        clear hK K
                        (try simp only [Act.put, List.setIfInBounds_toArray, List.set_cons_zero, List.set_cons_succ])
                        refine wpAnyH_ready (rs := [19]) (by kernel_rfl) (by simp) ?_
                        refine AllReadyH.cons rfl (fun K hK => ?_) ?_
                        · skip
                          refine step_append_lies _ (by rfl) _ _ _ (by rfl) (out + 1) 25 i0 _ 4 56 Tryz.underlying23 hi0 hz0 hz1 hz2 rfl (by omega) lv k (xs.flatMap rowR) (by rfl) OWN.out ⟨w4.heap.size, 0, none⟩ 1 1 [.int .i64 x.k, .int .i64 x.n, .string x.s, .slice q9 x.l.length c9] (by rfl) (by rfl) (World.news_of_block (cs := #[.int .i64 x.k, .int .i64 x.n, .string x.s, .slice q9 x.l.length c9]) (t := 25) (fr := (0, 0)) (heap_alloc_new w4 _)) (by simp [Value.oneCell']) (by omega) (by unfold maxLen; omega) (by omega) (by omega) (w4.heap.size + 1) (by simp) ?_
                          intro gg gcap w5 hown1 hgrow hat hltg
                          have hrw5 : ∀ y, lv.ownBlock = some y → out + 1 ≤ y := fun y hy => (HROW.out y hy)
                          replace LZ := (hgrow.frozen_far ⟨out, 3, none⟩ (by show out < _; omega) (fun e => by have h9 : out + 1 ≤ out := hrw5 _ e.symm; omega)).trans LZ
                          replace LB := (hgrow.cell_far ⟨out, 3, none⟩ (by show out < _; omega) (fun e => by have h9 : out + 1 ≤ out := hrw5 _ e.symm; omega)).trans LB
                          replace BV := Lib.hid (Blk.grown BV.out hgrow (fun y hy => by have := hrw5 y hy; omega))
                          replace BR := Lib.hid (Blk.grown BR.out hgrow (fun y hy => by have := hrw5 y hy; omega))
                          replace IW := Lib.hid (Blk.grown IW.out hgrow (fun y hy => by have := hrw5 y hy; omega))
                          replace LL := Nat.lt_of_lt_of_le LL hgrow.size
                          have OW5 := Lib.hid hown1
                          have G5 := Lib.hid hgrow
                          have HT5 := Lib.hid hat
                          clear hown1 hgrow hat hltg
                          clear hHeld
                          refine hK.out _ _ (⟨IW.out.cell 2, BV.out.cell 0, BV.out.cell 1, BV.out.cell 2⟩) (fun hHeld => ?_)
                          clear hK K
                          (try simp only [Act.put, List.setIfInBounds_toArray, List.set_cons_zero, List.set_cons_succ])
                          refine wpAnyH_take (i := 20) (v := ?_) rfl (by kernel_rfl) (by kernel_rfl) (by kernel_rfl) (fun _ _ _ h => h) (Or.inl ⟨by rfl, (by intro w hSw; (try dsimp only at hSw); go_simp; first | done | with_reducible rfl)⟩) (by assumption) ?_
                          (try simp only [Act.put, List.setIfInBounds_toArray, List.set_cons_zero, List.set_cons_succ])
                          refine wpAnyH_ready (rs := [21]) (by kernel_rfl) (by simp) ?_
                          refine AllReadyH.cons rfl (fun K hK => ?_) ?_
                          · skip
                            go_simp
                            replace BV := Lib.hid (BV.out.far (p := ⟨out, 3, none⟩) (by show w.heap.size ≠ out; omega) (.slice (some ⟨gg, 0, none⟩) (k + 1) gcap))
                            replace BR := Lib.hid (BR.out.far (p := ⟨out, 3, none⟩) (by show w.heap.size + 1 ≠ out; omega) (.slice (some ⟨gg, 0, none⟩) (k + 1) gcap))
                            replace IW := Lib.hid (Blk.far IW.out (p := ⟨out, 3, none⟩) (by show wb ≠ out; omega) (.slice (some ⟨gg, 0, none⟩) (k + 1) gcap))
                            clear hHeld
                            refine hK.out _ _ (⟨IW.out.cell 2, BV.out.cell 0, BV.out.cell 1, BV.out.cell 2⟩) (fun hHeld => ?_)
                            clear hK K
                            (try simp only [Act.put, List.setIfInBounds_toArray, List.set_cons_zero, List.set_cons_succ])
                            refine wpAnyH_done (by kernel_rfl) ?_ _
                            have NX := Lib.hid (LsB.next HWB.out HOUT.out (show out < out + 1 by omega) HOKH.out HP.out HKN.out (HX1.out.trans HXY.out) O4.out V4.out I4.out OW5.out G5.out HT5.out)
                            clear LB LZ LL IW O4 V4 I4 OW5 G5 HT5 OWN
                            go_wp2_with fail
                            go_roundw
                            case rel => exact ⟨k + 1, by go_num, by omega, Lib.hid ⟨_, _, _, NX.out⟩, BV, BR⟩
                            case measure => simp [intOf]; omega
                          · skip
                            exact AllReadyH.nil
                        · skip
                          exact AllReadyH.nil
                      · skip
                        exact AllReadyH.nil
                    · skip
                      exact AllReadyH.nil
                  · skip
                    exact AllReadyH.nil
                · skip
                  exact AllReadyH.nil
              · skip
                refine AllReadyH.cons rfl (fun K hK => ?_) ?_
                · skip
                  go_simp
                  refine (HG.out _ (HI2.out.ext U.out)).mono ?_
                  rintro e wq ⟨rfl, e4⟩
                  replace U := Lib.hid (U.out.trans e4)
                  replace OWN := Lib.hid (own_ext OWN.out e4)
                  replace BV := Lib.hid (BV.out.ext e4)
                  replace BR := Lib.hid (BR.out.ext e4)
                  replace IW := Lib.hid (Blk.ext IW.out e4)
                  replace LZ := (Ext.frozen' e4 LL).trans LZ
                  replace LB := e4.cell LB
                  replace LL := Nat.lt_of_lt_of_le LL e4.le
                  clear e4
                  clear hHeld
                  refine hK.out _ _ (⟨IW.out.cell 2, BV.out.cell 0, BV.out.cell 1, BV.out.cell 2⟩) (fun hHeld => ?_)
                  clear hK K
                  (try simp only [Act.put, List.setIfInBounds_toArray, List.set_cons_zero, List.set_cons_succ])
                  refine wpAnyH_take (i := 12) (v := ?_) rfl (by kernel_rfl) (by kernel_rfl) (by kernel_rfl) (fun _ _ _ h => h) (Or.inl ⟨by rfl, (by intro w hSw; (try dsimp only at hSw); go_simp; first | done | with_reducible rfl)⟩) (by assumption) ?_
                  (try simp only [Act.put, List.setIfInBounds_toArray, List.set_cons_zero, List.set_cons_succ])
                  refine wpAnyH_take (i := 13) (v := ?_) rfl (by kernel_rfl) (by kernel_rfl) (by kernel_rfl) (fun _ _ _ h => h) (Or.inl ⟨by rfl, (by intro w hSw; (try dsimp only at hSw); go_simp; first | done | with_reducible rfl)⟩) (by assumption) ?_
                  (try simp only [Act.put, List.setIfInBounds_toArray, List.set_cons_zero, List.set_cons_succ])
                  refine wpAnyH_ready (rs := [1, 14]) (by kernel_rfl) (by simp) ?_
                  refine AllReadyH.cons rfl (fun K hK => ?_) ?_
                  · skip
                    go_simp
                    clear hHeld
                    refine hK.out _ _ (⟨IW.out.cell 2, BV.out.cell 0, BV.out.cell 1, BV.out.cell 2⟩) (fun hHeld => ?_)
                    clear hK K
                    (try simp only [Act.put, List.setIfInBounds_toArray, List.set_cons_zero, List.set_cons_succ])
                    refine wpAnyH_ready (rs := [14]) (by kernel_rfl) (by simp) ?_
                    refine AllReadyH.cons rfl (fun K hK => ?_) ?_
                    · skip
                      go_simp
                      refine (got_yes ⟨gk, gn, gs⟩ _).mono ?_
                      rintro e ws ⟨rfl, e5⟩
                      replace U := Lib.hid (U.out.trans e5)
                      replace OWN := Lib.hid (own_ext OWN.out e5)
                      replace BV := Lib.hid (BV.out.ext e5)
                      replace BR := Lib.hid (BR.out.ext e5)
                      replace IW := Lib.hid (Blk.ext IW.out e5)
                      replace LZ := (Ext.frozen' e5 LL).trans LZ
                      replace LB := e5.cell LB
                      replace LL := Nat.lt_of_lt_of_le LL e5.le
                      clear e5
                      clear hHeld
                      refine hK.out _ _ (⟨IW.out.cell 2, BV.out.cell 0, BV.out.cell 1, BV.out.cell 2⟩) (fun hHeld => ?_)
                      clear hK K
                      (try simp only [Act.put, List.setIfInBounds_toArray, List.set_cons_zero, List.set_cons_succ])
                      refine wpAnyH_ready (rs := [17]) (by kernel_rfl) (by simp) ?_
                      refine AllReadyH.cons rfl (fun K hK => ?_) ?_
                      · skip
                        go_simp
                        refine (HREP.out _ U.out IW.out).mono ?_
                        intro e w4 hB
                        rcases HRHO.out with ⟨why, hwy⟩ | ⟨x, q1, hx⟩
                        · rw [hwy] at hB
                          obtain ⟨o4, he⟩ := hB
                          have he : Fails why e := he
                          unfold Fails at he
                          subst he
                          exact ⟨rfl, NOR.out why hwy _ ((Only.of_ext U.out).trans o4)⟩
                        rw [hx] at hB
                        obtain ⟨o4, rv, he, ⟨lv0, hrv, hv4⟩, wa4⟩ := hB
                        subst he
                        subst hrv
                        obtain ⟨q9, c9, hq9⟩ := hv4.slice
                        subst hq9
                        have O4 := Lib.hid ((Only.of_ext U.out).trans o4)
                        have V4 := Lib.hid (hv4.keep (fun _ _ _ _ hc => hc) (fun b _ (hb : _ ≤ b) => (Nat.le_trans U.out.le hb : wr.heap.size ≤ b)))
                        replace OWN := Lib.hid (own_only OWN.out o4 (by omega))
                        replace BV := Lib.hid (show Blk w4 w.heap.size 34 #[.int .i64 v.k, .int .i64 v.n, .string v.s] from (o4.block w.heap.size BV.out.lt (Only.ne_some (by omega))).trans BV.out)
                        replace BR := Lib.hid (show Blk w4 (w.heap.size + 1) 25 #[.int .i64 0, .int .i64 0, .string ⟨#[]⟩, .slice none 0 0] from (o4.block (w.heap.size + 1) BR.out.lt (Only.ne_some (by omega))).trans BR.out)
                        clear IW
                        have IW := Lib.hid wa4
                        have I4 := Lib.hid wa4
                        have HXY := Lib.hid hx
                        replace LZ := (o4.cells.2 _ _ LL (by omega)).trans LZ
                        replace LB := Only.cell o4 (by omega) LB
                        replace LL := Nat.lt_of_lt_of_le LL o4.le
                        clear o4 hv4 wa4 hx
                        clear hHeld
                        refine hK.out _ _ (⟨IW.out.cell 2, BV.out.cell 0, BV.out.cell 1, BV.out.cell 2⟩) (fun hHeld => ?_)
                        clear hK K
                        (try simp only [Act.put, List.setIfInBounds_toArray, List.set_cons_zero, List.set_cons_succ])
                        refine wpAnyH_ready (rs := [18]) (by kernel_rfl) (by simp) ?_
                        refine AllReadyH.cons rfl (fun K hK => ?_) ?_
                        · skip
                          go_simp
                          have e9 := (Ext.refl w4).alloc (.cells #[.int .i64 x.k, .int .i64 x.n, .string x.s, .slice q9 x.l.length c9] 25)
                          replace OWN := Lib.hid (own_ext OWN.out e9)
                          replace BV := Lib.hid (BV.out.ext e9)
                          replace BR := Lib.hid (BR.out.ext e9)
                          replace IW := Lib.hid (Blk.ext IW.out e9)
                          replace LZ := (Ext.frozen' e9 LL).trans LZ
                          replace LB := e9.cell LB
                          replace LL := Nat.lt_of_lt_of_le LL e9.le
                          clear e9
                          clear hHeld
                          refine hK.out _ _ (⟨IW.out.cell 2, BV.out.cell 0, BV.out.cell 1, BV.out.cell 2⟩) (fun hHeld => ?_)
                          clear hK K
                          (try simp only [Act.put, List.setIfInBounds_toArray, List.set_cons_zero, List.set_cons_succ])
                          refine wpAnyH_ready (rs := [19]) (by kernel_rfl) (by simp) ?_
                          refine AllReadyH.cons rfl (fun K hK => ?_) ?_
                          · skip
                            refine step_append_lies _ (by rfl) _ _ _ (by rfl) (out + 1) 25 i0 _ 4 56 Tryz.underlying23 hi0 hz0 hz1 hz2 rfl (by omega) lv k (xs.flatMap rowR) (by rfl) OWN.out ⟨w4.heap.size, 0, none⟩ 1 1 [.int .i64 x.k, .int .i64 x.n, .string x.s, .slice q9 x.l.length c9] (by rfl) (by rfl) (World.news_of_block (cs := #[.int .i64 x.k, .int .i64 x.n, .string x.s, .slice q9 x.l.length c9]) (t := 25) (fr := (0, 0)) (heap_alloc_new w4 _)) (by simp [Value.oneCell']) (by omega) (by unfold maxLen; omega) (by omega) (by omega) (w4.heap.size + 1) (by simp) ?_
                            intro gg gcap w5 hown1 hgrow hat hltg
                            have hrw5 : ∀ y, lv.ownBlock = some y → out + 1 ≤ y := fun y hy => (HROW.out y hy)
                            replace LZ := (hgrow.frozen_far ⟨out, 3, none⟩ (by show out < _; omega) (fun e => by have h9 : out + 1 ≤ out := hrw5 _ e.symm; omega)).trans LZ
                            replace LB := (hgrow.cell_far ⟨out, 3, none⟩ (by show out < _; omega) (fun e => by have h9 : out + 1 ≤ out := hrw5 _ e.symm; omega)).trans LB
                            replace BV := Lib.hid (Blk.grown BV.out hgrow (fun y hy => by have := hrw5 y hy; omega))
                            replace BR := Lib.hid (Blk.grown BR.out hgrow (fun y hy => by have := hrw5 y hy; omega))
                            replace IW := Lib.hid (Blk.grown IW.out hgrow (fun y hy => by have := hrw5 y hy; omega))
                            replace LL := Nat.lt_of_lt_of_le LL hgrow.size
                            have OW5 := Lib.hid hown1
                            have G5 := Lib.hid hgrow
                            have HT5 := Lib.hid hat
                            clear hown1 hgrow hat hltg
                            clear hHeld
                            refine hK.out _ _ (⟨IW.out.cell 2, BV.out.cell 0, BV.out.cell 1, BV.out.cell 2⟩) (fun hHeld => ?_)
                            clear hK K
                            (try simp only [Act.put, List.setIfInBounds_toArray, List.set_cons_zero, List.set_cons_succ])
                            refine wpAnyH_take (i := 20) (v := ?_) rfl (by kernel_rfl) (by kernel_rfl) (by kernel_rfl) (fun _ _ _ h => h) (Or.inl ⟨by rfl, (by intro w hSw; (try dsimp only at hSw); go_simp; first | done | with_reducible rfl)⟩) (by assumption) ?_
                            (try simp only [Act.put, List.setIfInBounds_toArray, List.set_cons_zero, List.set_cons_succ])
                            refine wpAnyH_ready (rs := [21]) (by kernel_rfl) (by simp) ?_
                            refine AllReadyH.cons rfl (fun K hK => ?_) ?_
                            · skip
                              go_simp
                              replace BV := Lib.hid (BV.out.far (p := ⟨out, 3, none⟩) (by show w.heap.size ≠ out; omega) (.slice (some ⟨gg, 0, none⟩) (k + 1) gcap))
                              replace BR := Lib.hid (BR.out.far (p := ⟨out, 3, none⟩) (by show w.heap.size + 1 ≠ out; omega) (.slice (some ⟨gg, 0, none⟩) (k + 1) gcap))
                              replace IW := Lib.hid (Blk.far IW.out (p := ⟨out, 3, none⟩) (by show wb ≠ out; omega) (.slice (some ⟨gg, 0, none⟩) (k + 1) gcap))
                              clear hHeld
                              refine hK.out _ _ (⟨IW.out.cell 2, BV.out.cell 0, BV.out.cell 1, BV.out.cell 2⟩) (fun hHeld => ?_)
                              clear hK K
                              (try simp only [Act.put, List.setIfInBounds_toArray, List.set_cons_zero, List.set_cons_succ])
                              refine wpAnyH_done (by kernel_rfl) ?_ _
                              have NX := Lib.hid (LsB.next HWB.out HOUT.out (show out < out + 1 by omega) HOKH.out HP.out HKN.out (HX1.out.trans HXY.out) O4.out V4.out I4.out OW5.out G5.out HT5.out)
                              clear LB LZ LL IW O4 V4 I4 OW5 G5 HT5 OWN
                              go_wp2_with fail
                              go_roundw
                              case rel => exact ⟨k + 1, by go_num, by omega, Lib.hid ⟨_, _, _, NX.out⟩, BV, BR⟩
                              case measure => simp [intOf]; omega
                            · skip
                              exact AllReadyH.nil
                          · skip
                            exact AllReadyH.nil
                        · skip
                          exact AllReadyH.nil
                      · skip
                        exact AllReadyH.nil
                    · skip
                      exact AllReadyH.nil
                  · skip
                    refine AllReadyH.cons rfl (fun K hK => ?_) ?_
                    · skip
                      go_simp
                      refine (got_yes ⟨gk, gn, gs⟩ _).mono ?_
                      rintro e ws ⟨rfl, e5⟩
                      replace U := Lib.hid (U.out.trans e5)
                      replace OWN := Lib.hid (own_ext OWN.out e5)
                      replace BV := Lib.hid (BV.out.ext e5)
                      replace BR := Lib.hid (BR.out.ext e5)
                      replace IW := Lib.hid (Blk.ext IW.out e5)
                      replace LZ := (Ext.frozen' e5 LL).trans LZ
                      replace LB := e5.cell LB
                      replace LL := Nat.lt_of_lt_of_le LL e5.le
                      clear e5
                      clear hHeld
                      refine hK.out _ _ (⟨IW.out.cell 2, BV.out.cell 0, BV.out.cell 1, BV.out.cell 2⟩) (fun hHeld => ?_)
                      clear hK K
                      (try simp only [Act.put, List.setIfInBounds_toArray, List.set_cons_zero, List.set_cons_succ])
                      refine wpAnyH_ready (rs := [1, 17]) (by kernel_rfl) (by simp) ?_
                      refine AllReadyH.cons rfl (fun K hK => ?_) ?_
                      · skip
                        go_simp
                        clear hHeld
                        refine hK.out _ _ (⟨IW.out.cell 2, BV.out.cell 0, BV.out.cell 1, BV.out.cell 2⟩) (fun hHeld => ?_)
                        clear hK K
                        (try simp only [Act.put, List.setIfInBounds_toArray, List.set_cons_zero, List.set_cons_succ])
                        refine wpAnyH_ready (rs := [17]) (by kernel_rfl) (by simp) ?_
                        refine AllReadyH.cons rfl (fun K hK => ?_) ?_
                        · skip
                          go_simp
                          refine (HREP.out _ U.out IW.out).mono ?_
                          intro e w4 hB
                          rcases HRHO.out with ⟨why, hwy⟩ | ⟨x, q1, hx⟩
                          · rw [hwy] at hB
                            obtain ⟨o4, he⟩ := hB
                            have he : Fails why e := he
                            unfold Fails at he
                            subst he
                            exact ⟨rfl, NOR.out why hwy _ ((Only.of_ext U.out).trans o4)⟩
                          rw [hx] at hB
                          obtain ⟨o4, rv, he, ⟨lv0, hrv, hv4⟩, wa4⟩ := hB
                          subst he
                          subst hrv
                          obtain ⟨q9, c9, hq9⟩ := hv4.slice
                          subst hq9
                          have O4 := Lib.hid ((Only.of_ext U.out).trans o4)
                          have V4 := Lib.hid (hv4.keep (fun _ _ _ _ hc => hc) (fun b _ (hb : _ ≤ b) => (Nat.le_trans U.out.le hb : wr.heap.size ≤ b)))
                          replace OWN := Lib.hid (own_only OWN.out o4 (by omega))
                          replace BV := Lib.hid (show Blk w4 w.heap.size 34 #[.int .i64 v.k, .int .i64 v.n, .string v.s] from (o4.block w.heap.size BV.out.lt (Only.ne_some (by omega))).trans BV.out)
                          replace BR := Lib.hid (show Blk w4 (w.heap.size + 1) 25 #[.int .i64 0, .int .i64 0, .string ⟨#[]⟩, .slice none 0 0] from (o4.block (w.heap.size + 1) BR.out.lt (Only.ne_some (by omega))).trans BR.out)
                          clear IW
                          have IW := Lib.hid wa4
                          have I4 := Lib.hid wa4
                          have HXY := Lib.hid hx
                          replace LZ := (o4.cells.2 _ _ LL (by omega)).trans LZ
                          replace LB := Only.cell o4 (by omega) LB
                          replace LL := Nat.lt_of_lt_of_le LL o4.le
                          clear o4 hv4 wa4 hx
                          clear hHeld
                          refine hK.out _ _ (⟨IW.out.cell 2, BV.out.cell 0, BV.out.cell 1, BV.out.cell 2⟩) (fun hHeld => ?_)
                          clear hK K
                          (try simp only [Act.put, List.setIfInBounds_toArray, List.set_cons_zero, List.set_cons_succ])
                          refine wpAnyH_ready (rs := [18]) (by kernel_rfl) (by simp) ?_
                          refine AllReadyH.cons rfl (fun K hK => ?_) ?_
                          · skip
                            go_simp
                            have e9 := (Ext.refl w4).alloc (.cells #[.int .i64 x.k, .int .i64 x.n, .string x.s, .slice q9 x.l.length c9] 25)
                            replace OWN := Lib.hid (own_ext OWN.out e9)
                            replace BV := Lib.hid (BV.out.ext e9)
                            replace BR := Lib.hid (BR.out.ext e9)
                            replace IW := Lib.hid (Blk.ext IW.out e9)
                            replace LZ := (Ext.frozen' e9 LL).trans LZ
                            replace LB := e9.cell LB
                            replace LL := Nat.lt_of_lt_of_le LL e9.le
                            clear e9
                            clear hHeld
                            refine hK.out _ _ (⟨IW.out.cell 2, BV.out.cell 0, BV.out.cell 1, BV.out.cell 2⟩) (fun hHeld => ?_)
                            clear hK K
                            (try simp only [Act.put, List.setIfInBounds_toArray, List.set_cons_zero, List.set_cons_succ])
                            refine wpAnyH_ready (rs := [19]) (by kernel_rfl) (by simp) ?_
                            refine AllReadyH.cons rfl (fun K hK => ?_) ?_
                            · skip
                              refine step_append_lies _ (by rfl) _ _ _ (by rfl) (out + 1) 25 i0 _ 4 56 Tryz.underlying23 hi0 hz0 hz1 hz2 rfl (by omega) lv k (xs.flatMap rowR) (by rfl) OWN.out ⟨w4.heap.size, 0, none⟩ 1 1 [.int .i64 x.k, .int .i64 x.n, .string x.s, .slice q9 x.l.length c9] (by rfl) (by rfl) (World.news_of_block (cs := #[.int .i64 x.k, .int .i64 x.n, .string x.s, .slice q9 x.l.length c9]) (t := 25) (fr := (0, 0)) (heap_alloc_new w4 _)) (by simp [Value.oneCell']) (by omega) (by unfold maxLen; omega) (by omega) (by omega) (w4.heap.size + 1) (by simp) ?_
                              intro gg gcap w5 hown1 hgrow hat hltg
                              have hrw5 : ∀ y, lv.ownBlock = some y → out + 1 ≤ y := fun y hy => (HROW.out y hy)
                              replace LZ := (hgrow.frozen_far ⟨out, 3, none⟩ (by show out < _; omega) (fun e => by have h9 : out + 1 ≤ out := hrw5 _ e.symm; omega)).trans LZ
                              replace LB := (hgrow.cell_far ⟨out, 3, none⟩ (by show out < _; omega) (fun e => by have h9 : out + 1 ≤ out := hrw5 _ e.symm; omega)).trans LB
                              replace BV := Lib.hid (Blk.grown BV.out hgrow (fun y hy => by have := hrw5 y hy; omega))
                              replace BR := Lib.hid (Blk.grown BR.out hgrow (fun y hy => by have := hrw5 y hy; omega))
                              replace IW := Lib.hid (Blk.grown IW.out hgrow (fun y hy => by have := hrw5 y hy; omega))
                              replace LL := Nat.lt_of_lt_of_le LL hgrow.size
                              have OW5 := Lib.hid hown1
                              have G5 := Lib.hid hgrow
                              have HT5 := Lib.hid hat
                              clear hown1 hgrow hat hltg
                              clear hHeld
                              refine hK.out _ _ (⟨IW.out.cell 2, BV.out.cell 0, BV.out.cell 1, BV.out.cell 2⟩) (fun hHeld => ?_)
                              clear hK K
                              (try simp only [Act.put, List.setIfInBounds_toArray, List.set_cons_zero, List.set_cons_succ])
                              refine wpAnyH_take (i := 20) (v := ?_) rfl (by kernel_rfl) (by kernel_rfl) (by kernel_rfl) (fun _ _ _ h => h) (Or.inl ⟨by rfl, (by intro w hSw; (try dsimp only at hSw); go_simp; first | done | with_reducible rfl)⟩) (by assumption) ?_
                              (try simp only [Act.put, List.setIfInBounds_toArray, List.set_cons_zero, List.set_cons_succ])
                              refine wpAnyH_ready (rs := [21]) (by kernel_rfl) (by simp) ?_
                              refine AllReadyH.cons rfl (fun K hK => ?_) ?_
                              · skip
                                go_simp
                                replace BV := Lib.hid (BV.out.far (p := ⟨out, 3, none⟩) (by show w.heap.size ≠ out; omega) (.slice (some ⟨gg, 0, none⟩) (k + 1) gcap))
                                replace BR := Lib.hid (BR.out.far (p := ⟨out, 3, none⟩) (by show w.heap.size + 1 ≠ out; omega) (.slice (some ⟨gg, 0, none⟩) (k + 1) gcap))
                                replace IW := Lib.hid (Blk.far IW.out (p := ⟨out, 3, none⟩) (by show wb ≠ out; omega) (.slice (some ⟨gg, 0, none⟩) (k + 1) gcap))
                                clear hHeld
                                refine hK.out _ _ (⟨IW.out.cell 2, BV.out.cell 0, BV.out.cell 1, BV.out.cell 2⟩) (fun hHeld => ?_)
                                clear hK K
                                (try simp only [Act.put, List.setIfInBounds_toArray, List.set_cons_zero, List.set_cons_succ])
                                refine wpAnyH_done (by kernel_rfl) ?_ _
                                have NX := Lib.hid (LsB.next HWB.out HOUT.out (show out < out + 1 by omega) HOKH.out HP.out HKN.out (HX1.out.trans HXY.out) O4.out V4.out I4.out OW5.out G5.out HT5.out)
                                clear LB LZ LL IW O4 V4 I4 OW5 G5 HT5 OWN
                                go_wp2_with fail
                                go_roundw
                                case rel => exact ⟨k + 1, by go_num, by omega, Lib.hid ⟨_, _, _, NX.out⟩, BV, BR⟩
                                case measure => simp [intOf]; omega
                              · skip
                                exact AllReadyH.nil
                            · skip
                              exact AllReadyH.nil
                          · skip
                            exact AllReadyH.nil
                        · skip
                          exact AllReadyH.nil
                      · skip
                        refine AllReadyH.cons rfl (fun K hK => ?_) ?_
                        · skip
                          go_simp
                          refine (HREP.out _ U.out IW.out).mono ?_
                          intro e w4 hB
                          rcases HRHO.out with ⟨why, hwy⟩ | ⟨x, q1, hx⟩
                          · rw [hwy] at hB
                            obtain ⟨o4, he⟩ := hB
                            have he : Fails why e := he
                            unfold Fails at he
                            subst he
                            exact ⟨rfl, NOR.out why hwy _ ((Only.of_ext U.out).trans o4)⟩
                          rw [hx] at hB
                          obtain ⟨o4, rv, he, ⟨lv0, hrv, hv4⟩, wa4⟩ := hB
                          subst he
                          subst hrv
                          obtain ⟨q9, c9, hq9⟩ := hv4.slice
                          subst hq9
                          have O4 := Lib.hid ((Only.of_ext U.out).trans o4)
                          have V4 := Lib.hid (hv4.keep (fun _ _ _ _ hc => hc) (fun b _ (hb : _ ≤ b) => (Nat.le_trans U.out.le hb : wr.heap.size ≤ b)))
                          replace OWN := Lib.hid (own_only OWN.out o4 (by omega))
                          replace BV := Lib.hid (show Blk w4 w.heap.size 34 #[.int .i64 v.k, .int .i64 v.n, .string v.s] from (o4.block w.heap.size BV.out.lt (Only.ne_some (by omega))).trans BV.out)
                          replace BR := Lib.hid (show Blk w4 (w.heap.size + 1) 25 #[.int .i64 0, .int .i64 0, .string ⟨#[]⟩, .slice none 0 0] from (o4.block (w.heap.size + 1) BR.out.lt (Only.ne_some (by omega))).trans BR.out)
                          clear IW
                          have IW := Lib.hid wa4
                          have I4 := Lib.hid wa4
                          have HXY := Lib.hid hx
                          replace LZ := (o4.cells.2 _ _ LL (by omega)).trans LZ
                          replace LB := Only.cell o4 (by omega) LB
                          replace LL := Nat.lt_of_lt_of_le LL o4.le
                          clear o4 hv4 wa4 hx
                          clear hHeld
                          refine hK.out _ _ (⟨IW.out.cell 2, BV.out.cell 0, BV.out.cell 1, BV.out.cell 2⟩) (fun hHeld => ?_)
                          clear hK K
                          (try simp only [Act.put, List.setIfInBounds_toArray, List.set_cons_zero, List.set_cons_succ])
                          refine wpAnyH_ready (rs := [1, 18]) (by kernel_rfl) (by simp) ?_
                          refine AllReadyH.cons rfl (fun K hK => ?_) ?_
                          · skip
                            go_simp
                            clear hHeld
                            refine hK.out _ _ (⟨IW.out.cell 2, BV.out.cell 0, BV.out.cell 1, BV.out.cell 2⟩) (fun hHeld => ?_)
                            clear hK K
                            (try simp only [Act.put, List.setIfInBounds_toArray, List.set_cons_zero, List.set_cons_succ])
                            refine wpAnyH_ready (rs := [18]) (by kernel_rfl) (by simp) ?_
                            refine AllReadyH.cons rfl (fun K hK => ?_) ?_
                            · skip
                              go_simp
                              have e9 := (Ext.refl w4).alloc (.cells #[.int .i64 x.k, .int .i64 x.n, .string x.s, .slice q9 x.l.length c9] 25)
                              replace OWN := Lib.hid (own_ext OWN.out e9)
                              replace BV := Lib.hid (BV.out.ext e9)
                              replace BR := Lib.hid (BR.out.ext e9)
                              replace IW := Lib.hid (Blk.ext IW.out e9)
                              replace LZ := (Ext.frozen' e9 LL).trans LZ
                              replace LB := e9.cell LB
                              replace LL := Nat.lt_of_lt_of_le LL e9.le
                              clear e9
                              clear hHeld
                              refine hK.out _ _ (⟨IW.out.cell 2, BV.out.cell 0, BV.out.cell 1, BV.out.cell 2⟩) (fun hHeld => ?_)
                              clear hK K
                              (try simp only [Act.put, List.setIfInBounds_toArray, List.set_cons_zero, List.set_cons_succ])
                              refine wpAnyH_ready (rs := [19]) (by kernel_rfl) (by simp) ?_
                              refine AllReadyH.cons rfl (fun K hK => ?_) ?_
                              · skip
                                refine step_append_lies _ (by rfl) _ _ _ (by rfl) (out + 1) 25 i0 _ 4 56 Tryz.underlying23 hi0 hz0 hz1 hz2 rfl (by omega) lv k (xs.flatMap rowR) (by rfl) OWN.out ⟨w4.heap.size, 0, none⟩ 1 1 [.int .i64 x.k, .int .i64 x.n, .string x.s, .slice q9 x.l.length c9] (by rfl) (by rfl) (World.news_of_block (cs := #[.int .i64 x.k, .int .i64 x.n, .string x.s, .slice q9 x.l.length c9]) (t := 25) (fr := (0, 0)) (heap_alloc_new w4 _)) (by simp [Value.oneCell']) (by omega) (by unfold maxLen; omega) (by omega) (by omega) (w4.heap.size + 1) (by simp) ?_
                                intro gg gcap w5 hown1 hgrow hat hltg
                                have hrw5 : ∀ y, lv.ownBlock = some y → out + 1 ≤ y := fun y hy => (HROW.out y hy)
                                replace LZ := (hgrow.frozen_far ⟨out, 3, none⟩ (by show out < _; omega) (fun e => by have h9 : out + 1 ≤ out := hrw5 _ e.symm; omega)).trans LZ
                                replace LB := (hgrow.cell_far ⟨out, 3, none⟩ (by show out < _; omega) (fun e => by have h9 : out + 1 ≤ out := hrw5 _ e.symm; omega)).trans LB
                                replace BV := Lib.hid (Blk.grown BV.out hgrow (fun y hy => by have := hrw5 y hy; omega))
                                replace BR := Lib.hid (Blk.grown BR.out hgrow (fun y hy => by have := hrw5 y hy; omega))
                                replace IW := Lib.hid (Blk.grown IW.out hgrow (fun y hy => by have := hrw5 y hy; omega))
                                replace LL := Nat.lt_of_lt_of_le LL hgrow.size
                                have OW5 := Lib.hid hown1
                                have G5 := Lib.hid hgrow
                                have HT5 := Lib.hid hat
                                clear hown1 hgrow hat hltg
                                clear hHeld
                                refine hK.out _ _ (⟨IW.out.cell 2, BV.out.cell 0, BV.out.cell 1, BV.out.cell 2⟩) (fun hHeld => ?_)
                                clear hK K
                                (try simp only [Act.put, List.setIfInBounds_toArray, List.set_cons_zero, List.set_cons_succ])
                                refine wpAnyH_take (i := 20) (v := ?_) rfl (by kernel_rfl) (by kernel_rfl) (by kernel_rfl) (fun _ _ _ h => h) (Or.inl ⟨by rfl, (by intro w hSw; (try dsimp only at hSw); go_simp; first | done | with_reducible rfl)⟩) (by assumption) ?_
                                (try simp only [Act.put, List.setIfInBounds_toArray, List.set_cons_zero, List.set_cons_succ])
                                refine wpAnyH_ready (rs := [21]) (by kernel_rfl) (by simp) ?_
                                refine AllReadyH.cons rfl (fun K hK => ?_) ?_
                                · skip
                                  go_simp
                                  replace BV := Lib.hid (BV.out.far (p := ⟨out, 3, none⟩) (by show w.heap.size ≠ out; omega) (.slice (some ⟨gg, 0, none⟩) (k + 1) gcap))
                                  replace BR := Lib.hid (BR.out.far (p := ⟨out, 3, none⟩) (by show w.heap.size + 1 ≠ out; omega) (.slice (some ⟨gg, 0, none⟩) (k + 1) gcap))
                                  replace IW := Lib.hid (Blk.far IW.out (p := ⟨out, 3, none⟩) (by show wb ≠ out; omega) (.slice (some ⟨gg, 0, none⟩) (k + 1) gcap))
                                  clear hHeld
                                  refine hK.out _ _ (⟨IW.out.cell 2, BV.out.cell 0, BV.out.cell 1, BV.out.cell 2⟩) (fun hHeld => ?_)
                                  clear hK K
                                  (try simp only [Act.put, List.setIfInBounds_toArray, List.set_cons_zero, List.set_cons_succ])
                                  refine wpAnyH_done (by kernel_rfl) ?_ _
                                  have NX := Lib.hid (LsB.next HWB.out HOUT.out (show out < out + 1 by omega) HOKH.out HP.out HKN.out (HX1.out.trans HXY.out) O4.out V4.out I4.out OW5.out G5.out HT5.out)
                                  clear LB LZ LL IW O4 V4 I4 OW5 G5 HT5 OWN
                                  go_wp2_with fail
                                  go_roundw
                                  case rel => exact ⟨k + 1, by go_num, by omega, Lib.hid ⟨_, _, _, NX.out⟩, BV, BR⟩
                                  case measure => simp [intOf]; omega
                                · skip
                                  exact AllReadyH.nil
                              · skip
                                exact AllReadyH.nil
                            · skip
                              exact AllReadyH.nil
                          · skip
                            refine AllReadyH.cons rfl (fun K hK => ?_) ?_
                            · skip
                              go_simp
                              have e9 := (Ext.refl w4).alloc (.cells #[.int .i64 x.k, .int .i64 x.n, .string x.s, .slice q9 x.l.length c9] 25)
                              replace OWN := Lib.hid (own_ext OWN.out e9)
                              replace BV := Lib.hid (BV.out.ext e9)
                              replace BR := Lib.hid (BR.out.ext e9)
                              replace IW := Lib.hid (Blk.ext IW.out e9)
                              replace LZ := (Ext.frozen' e9 LL).trans LZ
                              replace LB := e9.cell LB
                              replace LL := Nat.lt_of_lt_of_le LL e9.le
                              clear e9
                              clear hHeld
                              refine hK.out _ _ (⟨IW.out.cell 2, BV.out.cell 0, BV.out.cell 1, BV.out.cell 2⟩) (fun hHeld => ?_)
                              clear hK K
                              (try simp only [Act.put, List.setIfInBounds_toArray, List.set_cons_zero, List.set_cons_succ])
                              refine wpAnyH_ready (rs := [1]) (by kernel_rfl) (by simp) ?_
                              refine AllReadyH.cons rfl (fun K hK => ?_) ?_
                              · skip
                                go_simp
                                clear hHeld
                                refine hK.out _ _ (⟨IW.out.cell 2, BV.out.cell 0, BV.out.cell 1, BV.out.cell 2⟩) (fun hHeld => ?_)
                                clear hK K
                                (try simp only [Act.put, List.setIfInBounds_toArray, List.set_cons_zero, List.set_cons_succ])
                                refine wpAnyH_ready (rs := [19]) (by kernel_rfl) (by simp) ?_
                                refine AllReadyH.cons rfl (fun K hK => ?_) ?_
                                · skip
                                  refine step_append_lies _ (by rfl) _ _ _ (by rfl) (out + 1) 25 i0 _ 4 56 Tryz.underlying23 hi0 hz0 hz1 hz2 rfl (by omega) lv k (xs.flatMap rowR) (by rfl) OWN.out ⟨w4.heap.size, 0, none⟩ 1 1 [.int .i64 x.k, .int .i64 x.n, .string x.s, .slice q9 x.l.length c9] (by rfl) (by rfl) (World.news_of_block (cs := #[.int .i64 x.k, .int .i64 x.n, .string x.s, .slice q9 x.l.length c9]) (t := 25) (fr := (0, 0)) (heap_alloc_new w4 _)) (by simp [Value.oneCell']) (by omega) (by unfold maxLen; omega) (by omega) (by omega) (w4.heap.size + 1) (by simp) ?_
                                  intro gg gcap w5 hown1 hgrow hat hltg
                                  have hrw5 : ∀ y, lv.ownBlock = some y → out + 1 ≤ y := fun y hy => (HROW.out y hy)
                                  replace LZ := (hgrow.frozen_far ⟨out, 3, none⟩ (by show out < _; omega) (fun e => by have h9 : out + 1 ≤ out := hrw5 _ e.symm; omega)).trans LZ
                                  replace LB := (hgrow.cell_far ⟨out, 3, none⟩ (by show out < _; omega) (fun e => by have h9 : out + 1 ≤ out := hrw5 _ e.symm; omega)).trans LB
                                  replace BV := Lib.hid (Blk.grown BV.out hgrow (fun y hy => by have := hrw5 y hy; omega))
                                  replace BR := Lib.hid (Blk.grown BR.out hgrow (fun y hy => by have := hrw5 y hy; omega))
                                  replace IW := Lib.hid (Blk.grown IW.out hgrow (fun y hy => by have := hrw5 y hy; omega))
                                  replace LL := Nat.lt_of_lt_of_le LL hgrow.size
                                  have OW5 := Lib.hid hown1
                                  have G5 := Lib.hid hgrow
                                  have HT5 := Lib.hid hat
                                  clear hown1 hgrow hat hltg
                                  clear hHeld
                                  refine hK.out _ _ (⟨IW.out.cell 2, BV.out.cell 0, BV.out.cell 1, BV.out.cell 2⟩) (fun hHeld => ?_)
                                  clear hK K
                                  (try simp only [Act.put, List.setIfInBounds_toArray, List.set_cons_zero, List.set_cons_succ])
                                  refine wpAnyH_take (i := 20) (v := ?_) rfl (by kernel_rfl) (by kernel_rfl) (by kernel_rfl) (fun _ _ _ h => h) (Or.inl ⟨by rfl, (by intro w hSw; (try dsimp only at hSw); go_simp; first | done | with_reducible rfl)⟩) (by assumption) ?_
                                  (try simp only [Act.put, List.setIfInBounds_toArray, List.set_cons_zero, List.set_cons_succ])
                                  refine wpAnyH_ready (rs := [21]) (by kernel_rfl) (by simp) ?_
                                  refine AllReadyH.cons rfl (fun K hK => ?_) ?_
                                  · skip
                                    go_simp
                                    replace BV := Lib.hid (BV.out.far (p := ⟨out, 3, none⟩) (by show w.heap.size ≠ out; omega) (.slice (some ⟨gg, 0, none⟩) (k + 1) gcap))
                                    replace BR := Lib.hid (BR.out.far (p := ⟨out, 3, none⟩) (by show w.heap.size + 1 ≠ out; omega) (.slice (some ⟨gg, 0, none⟩) (k + 1) gcap))
                                    replace IW := Lib.hid (Blk.far IW.out (p := ⟨out, 3, none⟩) (by show wb ≠ out; omega) (.slice (some ⟨gg, 0, none⟩) (k + 1) gcap))
                                    clear hHeld
                                    refine hK.out _ _ (⟨IW.out.cell 2, BV.out.cell 0, BV.out.cell 1, BV.out.cell 2⟩) (fun hHeld => ?_)
                                    clear hK K
                                    (try simp only [Act.put, List.setIfInBounds_toArray, List.set_cons_zero, List.set_cons_succ])
                                    refine wpAnyH_done (by kernel_rfl) ?_ _
                                    have NX := Lib.hid (LsB.next HWB.out HOUT.out (show out < out + 1 by omega) HOKH.out HP.out HKN.out (HX1.out.trans HXY.out) O4.out V4.out I4.out OW5.out G5.out HT5.out)
                                    clear LB LZ LL IW O4 V4 I4 OW5 G5 HT5 OWN
                                    go_wp2_with fail
                                    go_roundw
                                    case rel => exact ⟨k + 1, by go_num, by omega, Lib.hid ⟨_, _, _, NX.out⟩, BV, BR⟩
                                    case measure => simp [intOf]; omega
                                  · skip
                                    exact AllReadyH.nil
                                · skip
                                  exact AllReadyH.nil
                              · skip
                                exact AllReadyH.nil
                            · skip
                              exact AllReadyH.nil
                        · skip
                          exact AllReadyH.nil
                    · skip
                      exact AllReadyH.nil
                · skip
                  exact AllReadyH.nil
            · skip
              exact AllReadyH.nil
        · obtain rfl : k = N := by omega
          obtain ⟨hr1, hL⟩ := HP.out.ends
          obtain ⟨q9, c9, hv9⟩ := hL.slice
          rw [List.length_map] at hv9
          subst hv9
          have RE : Hid (r = .ok (.mk 5 0 sNone (xs.map (·.1)), qc)) := Lib.hid (by rw [RR.out, hr1]; rfl)
          have HLL := Lib.hid hL
          have hdn : decide ((k : Int) < (k : Int)) = false := by simp
          obtain ⟨z0, z1, z2, z3, y0, y1, y2, y3⟩ := four BR.out
          obtain ⟨x0, x1, x2, x3, _⟩ := four HP.out.box
          have l6 := BR.out.lt
          clear hr1 hL
          go_wp2_with fail
          have KL : ListAt (fun b => w.heap.size ≤ b) ((((wr.setCell ⟨w.heap.size + 1, 0, none⟩ (.int .i64 5)).setCell ⟨w.heap.size + 1, 1, none⟩ (.int .i64 0)).setCell ⟨w.heap.size + 1, 2, none⟩ (.string ⟨#[]⟩)).setCell ⟨w.heap.size + 1, 3, none⟩ (.slice q9 xs.length c9)) d (.slice q9 xs.length c9) (xs.map (·.1)) := by
            rw [HEN.out]
            exact HLL.out.keep (fun b' o' v hok hc => by rw [cell_far (by omega), cell_far (by omega), cell_far (by omega), cell_far (by omega)]; exact hc) (fun b' _ hok => by omega)
          have FO := only4 (k := w.heap.size + 1) HP.out.only (by omega) (.int .i64 5) (.int .i64 0) (.string ⟨#[]⟩) (.slice q9 xs.length c9)
          have FW := far4 (k := w.heap.size + 1) HP.out.walk (by omega) (.int .i64 5) (.int .i64 0) (.string ⟨#[]⟩) (.slice q9 xs.length c9)
          have FB := put4 BR.out (.int .i64 5) (.int .i64 0) (.string ⟨#[]⟩) (.slice q9 xs.length c9)
          clear x0 x1 x2 x3 z0 z1 z2 z3 y0 y1 y2 y3
          generalize (((wr.setCell ⟨w.heap.size + 1, 0, none⟩ (.int .i64 5)).setCell ⟨w.heap.size + 1, 1, none⟩ (.int .i64 0)).setCell ⟨w.heap.size + 1, 2, none⟩ (.string ⟨#[]⟩)).setCell ⟨w.heap.size + 1, 3, none⟩ (.slice q9 xs.length c9) = w9 at KL FO FW FB ⊢
          obtain ⟨z0, z1, z2, z3, _⟩ := four FB
          exact bodyPost_ret (v := .agg #[.int .i64 5, .int .i64 0, .string ⟨#[]⟩, .slice q9 xs.length c9]) (by simp [results, Tryz.results72, go_sem, z0, z1, z2, z3]) rfl (by
            rw [RE.out]
            exact ⟨FO, _, rfl, ⟨_, rfl, KL⟩, FW⟩)
end Go.Proofs.YtlfihdcgbhdajaaGreatDoor
