/- BridgeValues: a reply's value, and how many cells are taken. -/
import Derived.Test.YtlfihdcgbhdajaaGreatDoorYE2
import Derived.Test.YtlfihdcgbhdajaaGreatDoorYB9
import Derived.Test.YtlfihdcgbhdajaaGreatDoorYC1
import Derived.Test.YtlfihdcgbhdajaaGreatDoorYD4
import Derived.Deep.DeepCutAuto
import Derived.Deep.CutBlock
namespace Go.Proofs.YtlfihdcgbhdajaaGreatDoor
open Go.RowKit
set_option linter.unusedVariables false
set_option linter.unusedSimpArgs false

abbrev eN : ByteArray := ⟨#[]⟩
theorem ltab_any (n : Int) (w : World) : Calls Tryz.prog 12 #[.int .i64 n] w fun e w' => e = .returned (vv 4 n eN) ∧ Ext w w' := by
 go_enter Tryz.func12, Tryz.ntmps12
 go_wp2_with fail
 exact bodyPost_ret (v := vv 4 n eN) (by simp [results, Tryz.results12, go_sem]) rfl ⟨rfl, (Ext.refl w).alloc _⟩
theorem rkeys_any (g : Nat) (tv : Value) (H : Hp) (t : Vl) (w : World) (h : RHeapIn w g tv H) (hlen : H.tabs.length ≤ 9223372036854775807) :
  Calls Tryz.prog 13 #[.pointer (some ⟨g, 0, none⟩), t.v] w fun e w' => ∃ v, e = .returned (.tuple #[v, .string (ofW H t)]) ∧ RowB w' w.heap.size v (keysV H t) ∧ Ext w w' := by
 unfold keysV
 by_cases hn : ofW H t = sNone
 ·rw [if_pos hn, hn]
  exact rkeys_tab g tv H t w h hlen hn
 ·rw [if_neg hn]
  refine (rkeys_why g tv H t w h hlen (fun e => hn (toList_nil e))).mono ?_
  rintro e w' ⟨rfl, he⟩
  exact ⟨_, rfl, World.ownsRow_nil _ _ _ _, he⟩
theorem RHeapIn.tslice {w : World} {g : Nat} {tv : Value} {H : Hp} (h : RHeapIn w g tv H) : ∃ q c, tv = .slice q H.tabs.length c := by
 obtain ⟨rows, ⟨hl, hrow⟩, _⟩ := h.rows
 rcases hrow with ⟨h1, h2⟩ | ⟨gb, cap, cur, e1, _⟩
 ·exact ⟨none, 0, by rw [h1, h2]⟩
 ·exact ⟨_, _, e1⟩
theorem RHeapIn.fresh (w : World) (c : Int) (hc : c ≤ 9223372036854775807) : RHeapIn (w.alloc (.cells #[.slice none 0 0, .int .i64 (max c 0), .int .i64 0] 41)) w.heap.size (.slice none 0 0) (newH c) :=
 ⟨Blk.new _ _ _, ⟨[], World.ownsRow_nil _ _ _ _, rfl, fun i r T hr => by simp at hr⟩, newH_ok hc⟩
theorem HeapIn.fresh (w : World) (c : Int) (hc : c ≤ 9223372036854775807) : HeapIn (w.alloc (.cells #[.slice none 0 0, .int .i64 (max c 0), .int .i64 0] 58)) w.heap.size (.slice none 0 0) [] (newH c) :=
 ⟨Blk.new _ _ _, World.ownsRow_nil _ _ _ _, rfl, fun i r T hr => by simp at hr, List.nodup_nil, newH_ok hc⟩
structure LV (w W : World) (g gr b7 b9 : Nat) (H : Hp) (v : Vl) : Prop where
 ex : ∃ tv rs, HeapIn W g tv rs H
 rex : ∃ tr, RHeapIn W gr tr H
 x7 : Blk W b7 34 #[.int .i64 v.k, .int .i64 v.n, .string v.s]
 x9 : Blk W b9 34 #[.int .i64 v.k, .int .i64 v.n, .string v.s]
 ext : Ext w W
 len : H.tabs.length ≤ 1000000
theorem valueR_len (H : Hp) (x : Rep) : (valueR H x).2.2.tabs.length ≤ H.tabs.length + 1 + itR x := by
 rw [valueR_is]
 split
 ·exact valP_len x H
 ·show H.tabs.length ≤ _; omega
set_option maxRecDepth 100000 in
set_option maxHeartbeats 8000000 in
theorem law_values (w : World) (hpw : Pow w) (n : Int) (hn : in64 n) (x : Rep) (q : Option Addr) (c D : Nat) (hv : ListAt (fun b => b < w.heap.size) w D (.slice q x.l.length c) x.l) (h6 : i64R x) :
  Calls Tryz.prog 3 #[.int .i64 n, .agg #[.int .i64 x.k, .int .i64 x.n, .string x.s, .slice q x.l.length c]] w fun e w' => e = .returned (.bool true) ∧ Ext w w' := by
 have HP := Lib.hid hpw
 have e0 : Ext w (w.alloc (.cells #[.int .i64 x.k, .int .i64 x.n, .string x.s, .slice q x.l.length c] 25)) := (Ext.refl w).alloc _
 have HE := Lib.hid e0
 have B3 : Hid (Blk (w.alloc (.cells #[.int .i64 x.k, .int .i64 x.n, .string x.s, .slice q x.l.length c] 25)) w.heap.size 25 #[.int .i64 x.k, .int .i64 x.n, .string x.s, .slice q x.l.length c]) := Lib.hid (Blk.new w _ _)
 have HV := Lib.hid (hv.ext e0)
 have H6 := Lib.hid h6
 have HN := Lib.hid hn
 have hz := fun W (hW : Ext (w.alloc (.cells #[.int .i64 x.k, .int .i64 x.n, .string x.s, .slice q x.l.length c] 25)) W) => size_any D (fun b => b < w.heap.size) W x (.slice q x.l.length c) 0 (HV.out.ext hW) (by decide)
 obtain ⟨sx, hsx⟩ : ∃ sx, szR x 0 = sx := ⟨_, rfl⟩
 rw [hsx] at hz
 have HZ := Lib.hid hz
 have HFEW : Hid (¬ 3000 < sx → itR x ≤ 1000 ∧ txR x ≤ 10000) := Lib.hid (fun h => by have := szR_few x 0 (by omega) (by omega); omega)
 clear hz hsx hpw e0 hv h6 hn
 go_enter Tryz.func3, Tryz.ntmps3
 go_wp2_with fail
 refine (show Calls Tryz.prog 4 #[.agg #[.int .i64 x.k, .int .i64 x.n, .string x.s, .slice q x.l.length c], .int .i64 0] (w.alloc (.cells #[.int .i64 x.k, .int .i64 x.n, .string x.s, .slice q x.l.length c] 25)) _ from HZ.out _ (Ext.refl _)).mono ?_
 generalize (w.alloc (.cells #[.int .i64 x.k, .int .i64 x.n, .string x.s, .slice q x.l.length c] 25)) = W at *
 rintro e w1 ⟨rfl, e1⟩
 have E1 := Lib.hid (HE.out.trans e1)
 have C3 := Lib.hid (B3.out.ext e1)
 have CV := Lib.hid (HV.out.ext e1)
 clear e1 HE B3 HV HZ
 rcases Decidable.em (3000 < sx) with hs | hs
 ·have hd : decide ((3000 : Int) < (sx : Int)) = true := decide_eq_true (by omega)
  have hd2 : decide (3000 < sx) = true := decide_eq_true hs
  go_wp2_with fail
  refine (works_any _ (HP.out.ext E1.out)).mono ?_
  rintro e wz ⟨rfl, ez⟩
  have EZ := Lib.hid (E1.out.trans ez)
  clear ez
  go_wp2_with fail
  go_ret
  exact ⟨rfl, EZ.out⟩
 have hd : decide ((3000 : Int) < (sx : Int)) = false := decide_eq_false (by omega)
 have hd2 : decide (3000 < sx) = false := decide_eq_false hs
 have HIT := Lib.hid (HFEW.out hs)
 go_wp2_with fail
 clear hd hd2 hs HFEW
 refine (new_any n w1 HN.out.2 HN.out.1).mono ?_
 rintro e w2 ⟨rfl, hw2⟩
 have P2 : Hid (HeapIn w2 w1.heap.size (.slice none 0 0) [] (newH n)) := Lib.hid (by rw [← hw2]; exact HeapIn.fresh w1 n HN.out.2)
 have e2 : Ext w1 w2 := by rw [← hw2]; exact (Ext.refl w1).alloc _
 have E2 := Lib.hid e2
 have hsz : w2.heap.size = w1.heap.size + 1 := by rw [← hw2]; exact size_alloc _ _
 obtain ⟨g, hg⟩ : ∃ g, w1.heap.size = g := ⟨_, rfl⟩
 rw [hg] at P2 hsz ⊢
 have HG := Lib.hid hg
 clear hw2 e2 hg
 go_wp2_with fail
 refine (rnew_any n w2 HN.out.2 HN.out.1).mono ?_
 rintro e w3 ⟨rfl, hw3⟩
 have Q3 : Hid (RHeapIn w3 w2.heap.size (.slice none 0 0) (newH n)) := Lib.hid (by rw [← hw3]; exact RHeapIn.fresh w2 n HN.out.2)
 have e3 : Ext w2 w3 := by rw [← hw3]; exact (Ext.refl w2).alloc _
 have P3 := Lib.hid (P2.out.ext e3)
 have E3 := Lib.hid (E2.out.trans e3)
 have D3 := Lib.hid (C3.out.ext E3.out)
 have DV := Lib.hid (CV.out.ext E3.out)
 have hbw := C3.out.lt
 obtain ⟨gr, hgr⟩ : ∃ gr, w2.heap.size = gr := ⟨_, rfl⟩
 rw [hgr] at Q3 hsz ⊢
 have hle := E1.out.le
 have FL : Hid (∀ k, Foot g (.slice none 0 0) [] k → w1.heap.size ≤ k) := Lib.hid (by
  rintro k (rfl | hx | hx)
  ·exact Nat.le_of_eq HG.out
  ·simp [Value.ownBlock] at hx
  ·simp [mapsOf] at hx)
 have RL : Hid (∀ k, RFoot gr (.slice none 0 0) k → w1.heap.size ≤ k) := Lib.hid (by
  rintro k (rfl | hx)
  ·have := HG.out; omega
  ·simp [Value.ownBlock] at hx)
 clear hw3 e3 hgr P2 E2 C3 CV hsz
 obtain ⟨p, hp⟩ : ∃ p, valueR (newH n) x = p := ⟨_, rfl⟩
 have hpl := valueR_len (newH n) x
 rw [hp] at hpl
 have HPL : Hid (p.2.2.tabs.length ≤ 1000000) := Lib.hid (by have := HIT.out.1; have h0 : (newH n).tabs.length = 0 := rfl; omega)
 have cV := value_any w3 g (.slice none 0 0) [] (newH n) P3.out (by show (0 : Nat) ≤ _; omega) ((HP.out.ext E1.out).ext E3.out) x q c D (DV.out.keep (fun _ _ _ _ hc => hc) (fun b hlt (hb : b < w.heap.size) => ⟨hlt, fun hf => by have := FL.out b hf; omega⟩)) H6.out
 have cR := fun (W : World) (h : RHeapIn W gr (.slice none 0 0) (newH n)) (hl : ListAt (fun b => b < W.heap.size ∧ ¬ RFoot gr (.slice none 0 0) b) W D (.slice q x.l.length c) x.l) => rvalue_any W gr (.slice none 0 0) (newH n) h x q c D (by show (0 : Nat) ≤ _; omega) (by have := HIT.out.1; omega) (by have := HIT.out.2; omega) H6.out hl
 rw [hp] at cV cR
 have CV := Lib.hid cV
 have CR := Lib.hid cR
 clear cV cR hp hpl
 obtain ⟨why, ⟨vk, vn, vs⟩, H2⟩ := p
 obtain ⟨z0, z1, z2, z3, _⟩ := four D3.out
 go_wp2_with fail
 clear z0 z1 z2 z3
 refine (show Calls Tryz.prog 8 _ w3 (fun e w' => e = .returned (.tuple #[vv vk vn vs, .string why]) ∧ HStep w3 g (.slice none 0 0) [] w' H2) from CV.out).mono ?_
 rintro e w4 ⟨rfl, tv, rs, s4⟩
 have hnf : ¬ Foot g (.slice none 0 0) [] w.heap.size := fun hf => by have h1 := FL.out _ hf; omega
 have ea := (Ext.refl w4).alloc (.cells #[.int .i64 vk, .int .i64 vn, .string vs] 34)
 have P4 := Lib.hid (s4.heap.ext ea)
 have Q4 := Lib.hid ((Q3.out.other P3.out s4.touch).ext ea)
 have E4 := Lib.hid ((s4.touch.to_ext E3.out FL.out).trans ea)
 have D4 := Lib.hid ((D3.out.step s4 hnf).ext ea)
 have DV4 := Lib.hid ((DV.out.keep (ok' := fun b => b < w.heap.size) (fun b o y hb hc => (s4.touch.cells.1 b o (Nat.lt_of_lt_of_le (Nat.lt_of_lt_of_le hb hle) E3.out.le) (fun hf => by have h1 := FL.out _ hf; omega)).trans hc) (fun _ _ h => h)).ext ea)
 have X7 := Lib.hid (Blk.new w4 34 #[.int .i64 vk, .int .i64 vn, .string vs])
 have N7 : Hid (¬ RFoot gr (.slice none 0 0) w4.heap.size) := Lib.hid (fun hf => by have := (Q3.out.other P3.out s4.touch).low hf; omega)
 clear s4 ea P3 Q3 E3 D3 DV CV hnf
 obtain ⟨z0, z1, z2, z3, _⟩ := four D4.out
 go_wp2_with fail
 clear z0 z1 z2 z3
 generalize w4.alloc (.cells #[.int .i64 vk, .int .i64 vn, .string vs] 34) = w5 at *
 obtain ⟨b7, hb7⟩ : ∃ b7, w4.heap.size = b7 := ⟨_, rfl⟩
 rw [hb7] at X7 N7 ⊢
 clear hb7
 have hnr : ¬ RFoot gr (.slice none 0 0) w.heap.size := fun hf => by have h1 := RL.out _ hf; omega
 refine (show Calls Tryz.prog 9 _ w5 (fun e w' => e = .returned (.tuple #[vv vk vn vs, .string why]) ∧ RStep w5 gr (.slice none 0 0) w' H2) from CR.out w5 Q4.out (DV4.out.keep (fun _ _ _ _ hc => hc) (fun b hlt (hb : b < w.heap.size) => ⟨hlt, fun hf => by have := RL.out b hf; omega⟩))).mono ?_
 rintro e w6 ⟨rfl, tr, s6⟩
 have ea := (Ext.refl w6).alloc (.cells #[.int .i64 vk, .int .i64 vn, .string vs] 34)
 have X9 := Lib.hid (Blk.new w6 34 #[.int .i64 vk, .int .i64 vn, .string vs])
 have LL : Hid (LV w (w6.alloc (.cells #[.int .i64 vk, .int .i64 vn, .string vs] 34)) g gr b7 w6.heap.size H2 ⟨vk, vn, vs⟩) := Lib.hid
  ⟨⟨tv, rs, (P4.out.other Q4.out s6.touch).ext ea⟩, ⟨tr, s6.heap.ext ea⟩, (X7.out.rstep s6 N7.out).ext ea, X9.out, E1.out.trans ((s6.touch.to_ext E4.out RL.out).trans ea), HPL.out⟩
 clear s6 ea P4 Q4 E4 D4 DV4 X7 N7 CR X9 hnr RL FL HG HIT hle hbw E1 H6 HN HPL
 go_upto_region 6 with (fail)
 generalize w6.alloc (.cells #[.int .i64 vk, .int .i64 vn, .string vs] 34) = W at *
 obtain ⟨b9, hb9⟩ : ∃ b9, w6.heap.size = b9 := ⟨_, rfl⟩
 rw [hb9] at LL ⊢
 clear hb9
 obtain ⟨tv, rs, h1⟩ := LL.out.ex
 obtain ⟨tr, h2⟩ := LL.out.rex
 have HPH := Lib.hid h1
 have HQ := Lib.hid h2
 have EW := Lib.hid LL.out.ext
 have hSp := Lib.hid (fun (Z : World) (hZ : Ext W Z) => spent_any g tv H2.cells H2.spent Z (h1.head.ext hZ))
 have q2 := h2.head.cell 2
 have hql := h2.head.lt
 simp only [List.getElem?_toArray, List.getElem?_cons_zero, List.getElem?_cons_succ] at q2
 obtain ⟨sp, hsp⟩ : ∃ sp, H2.spent = sp := ⟨_, rfl⟩
 rw [hsp] at q2 hSp
 have hsp1 : (sp == sp) = true := by simp
 have hwhy : (why.toList == why.toList) = true := by simp
 obtain ⟨a0, a1, a2, _⟩ := three LL.out.x7
 obtain ⟨b0, b1, b2, _⟩ := three LL.out.x9
 simp only at a0 a1 a2 b0 b1 b2
 have l7 := LL.out.x7.lt
 have l9 := LL.out.x9.lt
 have hgu := fun a b x y W => vl_guard .neq (.inr rfl) a b x y W
 have hv1 : ∀ W, (binOp .neq 34 (vv vk vn vs) (vv vk vn vs)).run Tryz.prog W = .ok (.bool false) W := fun W => by have := vl_neq ⟨vk, vn, vs⟩ ⟨vk, vn, vs⟩ W; simpa using this
 have HLEN := Lib.hid LL.out.len
 clear LL h1 h2 hsp
 go_cut [57] (fun s57 wx => s57 = .bool false ∧ Hid (Ext W wx))
 case first =>
  go_region_held3 (fun w' => w'.cell? ⟨b7, 0, none⟩ = some (.int .i64 vk) ∧ w'.cell? ⟨b7, 1, none⟩ = some (.int .i64 vn) ∧ w'.cell? ⟨b7, 2, none⟩ = some (.string vs) ∧ w'.cell? ⟨b9, 0, none⟩ = some (.int .i64 vk) ∧ w'.cell? ⟨b9, 1, none⟩ = some (.int .i64 vn) ∧ w'.cell? ⟨b9, 2, none⟩ = some (.string vs) ∧ w'.cell? ⟨gr, 2, none⟩ = some (.int .i64 sp)) (go_keep)
   (first
    | (go_at_call 10; refine (hSp.out _ (Ext.refl _).drew).mono ?_; rintro e w8 ⟨rfl, e8⟩; have q3 := (e8.cells.1 gr 2 hql).trans q2; have a3 := (e8.cells.1 b7 0 l7).trans a0; have a4 := (e8.cells.1 b7 1 l7).trans a1; have a5 := (e8.cells.1 b7 2 l7).trans a2; have b3 := (e8.cells.1 b9 0 l9).trans b0; have b4 := (e8.cells.1 b9 1 l9).trans b1; have b5 := (e8.cells.1 b9 2 l9).trans b2; have E8 := Lib.hid ((Ext.refl W).drew.trans e8); clear e8))
  all_goals go_wp2_with fail
  all_goals (
   go_meet
   exact ⟨rfl, E8⟩)
 case rest =>
 obtain ⟨rfl, EC⟩ := hcut
 obtain ⟨W2, rfl⟩ : ∃ W2 : World, W2 = wc := ⟨_, rfl⟩
 have HPQ := Lib.hid (HPH.out.ext EC.out)
 have HQQ := Lib.hid (HQ.out.ext EC.out)
 have EW2 := Lib.hid (EW.out.trans EC.out)
 clear HPH HQ EW EC hql q2 hsp1 hwhy a0 a1 a2 b0 b1 b2 l7 l9 hgu hv1 hSp
 obtain ⟨qt, ct, htr⟩ := HQQ.out.tslice
 subst htr
 obtain ⟨m, hm⟩ : ∃ m, H2.tabs.length = m := ⟨_, rfl⟩
 have hmax : m ≤ 1000000 := by rw [← hm]; exact HLEN.out
 have HM := Lib.hid hm
 have hKO : ∀ t, ∀ k ∈ keysV H2 t, in64 k.n ∧ ∃ T, TbOk T ∧ keysV H2 t = keysL T := fun t k hk => by
  unfold keysV at hk ⊢
  by_cases hn : ofW H2 t = sNone
  ·rw [if_pos hn] at hk
   have hT := tabOf_ok HPQ.out.ok (ofW_none hn).2.2.2.2
   exact ⟨(keysL_ok hT k hk).num, _, hT, if_pos hn⟩
  ·rw [if_neg hn] at hk
   exact (List.not_mem_nil hk).elim
 have HKO := Lib.hid hKO
 have HKL : Hid (∀ t, (keysV H2 t).length ≤ 65536) := Lib.hid (fun t => by
  unfold keysV
  by_cases hn : ofW H2 t = sNone
  ·rw [if_pos hn]
   have hT := tabOf_ok HPQ.out.ok (ofW_none hn).2.2.2.2
   rw [keysL_len hT]
   exact hT.most
  ·rw [if_neg hn]; exact Nat.zero_le _)
 have HT0 : Hid (∀ wr, Ext W2 wr → wr.cell? ⟨gr, 0, none⟩ = some (.slice qt m ct)) := Lib.hid (fun wr he => by
  have := (HQQ.out.ext he).head.cell 0
  simp only [List.getElem?_toArray, List.getElem?_cons_zero, List.getElem?_cons_succ] at this
  rw [hm] at this
  exact this)
 clear hKO hm
 go_wp2_with fail
 go_loopw [11] (fun s11 wr => ∃ i : Nat, s11 = .int .i64 (i : Int) ∧ i ≤ m ∧ Hid (Ext W2 wr)) (fun s11 _ => m - (intOf s11).toNat)
 case atStart => exact ⟨0, rfl, Nat.zero_le _, Lib.hid (Ext.refl _)⟩
 case round =>
  obtain ⟨i, rfl, hi, HE⟩ := hrel
  have t0 := HT0.out wr HE.out
  have htl := (HQQ.out.ext HE.out).head.lt
  by_cases hlt : i < m
  ·have hd : decide ((i : Int) < (m : Int)) = true := decide_eq_true (by omega)
   have hd' : decide (i < m) = true := decide_eq_true hlt
   have hiI : (i : Int) ≤ 1000000 := by omega
   go_wp2_with fail
   refine (ltab_any _ _).mono ?_
   rintro e w1 ⟨rfl, e1⟩
   have E1 := Lib.hid (HE.out.trans e1)
   clear e1 t0 htl
   go_wp2_with fail
   refine (show Calls Tryz.prog 11 #[.pointer (some ⟨g, 0, none⟩), (⟨4, (i : Int), eN⟩ : Vl).v] w1 _ from keys_any g tv rs H2 ⟨4, (i : Int), eN⟩ w1 (HPQ.out.ext E1.out) (by have := HLEN.out; omega)).mono ?_
   rintro e w2 ⟨vk, rfl, rowk, e2⟩
   have E2 := Lib.hid (E1.out.trans e2)
   obtain ⟨ks, hks⟩ : ∃ ks, keysV H2 ⟨4, (i : Int), eN⟩ = ks := ⟨_, rfl⟩
   obtain ⟨oo, hoo⟩ : ∃ oo, ofW H2 ⟨4, (i : Int), eN⟩ = oo := ⟨_, rfl⟩
   rw [hks] at rowk
   rw [hoo]
   have HKS := Lib.hid hks
   have HOO := Lib.hid hoo
   have RK := Lib.hid rowk.at0
   obtain ⟨qk, ck, hvk⟩ := rowk.at0.slice
   subst hvk
   have hkl : ks.length ≤ 65536 := by rw [← hks]; exact HKL.out _
   clear e2 rowk hks hoo
   go_wp2_with fail
   refine (ltab_any _ _).mono ?_
   rintro e w3 ⟨rfl, e3⟩
   have E3 := Lib.hid (E2.out.trans e3)
   have RK3 := Lib.hid (RK.out.ext e3)
   clear e3
   go_wp2_with fail
   refine (show Calls Tryz.prog 13 #[.pointer (some ⟨gr, 0, none⟩), (⟨4, (i : Int), eN⟩ : Vl).v] w3 _ from rkeys_any gr _ H2 ⟨4, (i : Int), eN⟩ w3 (HQQ.out.ext E3.out) (by have := HLEN.out; omega)).mono ?_
   rintro e w4 ⟨vl, rfl, rowl, e4⟩
   have E4 := Lib.hid (E3.out.trans e4)
   have RK4 := Lib.hid (RK3.out.ext e4)
   rw [HKS.out] at rowl
   rw [HOO.out]
   have RL4 := Lib.hid rowl.at0
   obtain ⟨ql, cl, hvl⟩ := rowl.at0.slice
   subst hvl
   clear e4 rowl RK RK3 E1 E2 E3
   have hoo1 : (oo.toList == oo.toList) = true := by simp
   have hlen1 : ((ks.length : Int) == (ks.length : Int)) = true := by simp
   go_wp2_with fail
   go_loopw [16] (fun s16 wr => ∃ j : Nat, s16 = .int .i64 (j : Int) ∧ j ≤ ks.length ∧ Hid (Ext w4 wr)) (fun s16 _ => ks.length - (intOf s16).toNat)
   case atStart => exact ⟨0, rfl, Nat.zero_le _, Lib.hid (Ext.refl _)⟩
   case round =>
    obtain ⟨j, rfl, hj, HX⟩ := hrel
    have hjI : (j : Int) ≤ 65536 := by omega
    have hj0 : (0 : Int) ≤ (j : Int) := by omega
    by_cases hltj : j < ks.length
    ·have hdj : decide ((j : Int) < (ks.length : Int)) = true := decide_eq_true (by omega)
     have hdj' : decide (j < ks.length) = true := decide_eq_true hltj
     have hltI : (j : Int) < (ks.length : Int) := by omega
     obtain ⟨x, hx⟩ : ∃ x, ks[j]? = some x := ⟨_, List.getElem?_eq_getElem hltj⟩
     have hxn := (HKO.out ⟨4, (i : Int), eN⟩ x (by rw [HKS.out]; exact List.mem_of_getElem? hx)).1
     obtain ⟨kb, kc, ekv, hkb, d0, d1, d2⟩ := (RK4.out.ext HX.out).cells j x hx
     obtain ⟨lb, lc, elv, hlb, f0, f1, f2⟩ := (RL4.out.ext HX.out).cells j x hx
     obtain ⟨rfl, rfl⟩ : qk = some ⟨kb, 0, none⟩ ∧ ck = kc := by injection ekv with h1 _ h3; exact ⟨h1, h3⟩
     obtain ⟨rfl, rfl⟩ : ql = some ⟨lb, 0, none⟩ ∧ cl = lc := by injection elv with h1 _ h3; exact ⟨h1, h3⟩
     obtain ⟨gv, hgv⟩ : ∃ gv, getV H2 ⟨4, (i : Int), eN⟩ x = gv := ⟨_, rfl⟩
     obtain ⟨gw, hgw⟩ : ∃ gw, getW H2 ⟨4, (i : Int), eN⟩ x = gw := ⟨_, rfl⟩
     have EX := Lib.hid (E4.out.trans HX.out)
     have hG := Lib.hid (fun (Z : World) (hZ : Ext wr Z) => get_any g tv rs H2 ⟨4, (i : Int), eN⟩ x Z (HPQ.out.ext (EX.out.trans hZ)) (by have := HLEN.out; omega) hxn)
     have hR := Lib.hid (fun (Z : World) (hZ : Ext wr Z) => rget_any gr _ H2 ⟨4, (i : Int), eN⟩ x Z (HQQ.out.ext (EX.out.trans hZ)) (by have := HLEN.out; omega))
     rw [hgv, hgw] at hG hR
     obtain ⟨k0, n0, s0⟩ := x
     obtain ⟨gk, gn, gs⟩ := gv
     simp only at d0 d1 d2 f0 f1 f2
     clear ekv elv hx hxn hgv hgw
     go_wp2_with fail
     go_upto_region 18 with (fail)
     go_cut [17] (fun s17 wx => ∃ bv : Nat, s17 = .pointer (some ⟨bv, 0, none⟩) ∧ wr.heap.size ≤ bv ∧ Hid (Blk wx bv 34 #[.int .i64 gk, .int .i64 gn, .string gs] ∧ Ext wr wx))
     case first =>
      have hlowW : wr.heap.size ≤ wr.heap.size := by omega
      have hnb : ¬ wr.heap.size = kb := by omega
      have hnb2 : ¬ kb = wr.heap.size := by omega
      have hbS : kb < wr.heap.size := by omega
      go_region_held3 (fun w' => w'.cell? ⟨kb, j * 3, none⟩ = some (.int .i64 k0) ∧ w'.cell? ⟨kb, j * 3 + 1, none⟩ = some (.int .i64 n0) ∧ w'.cell? ⟨kb, j * 3 + 2, none⟩ = some (.string s0)) (go_keep)
       (first
        | (go_at_call 12; refine (ltab_any _ _).mono ?_; rintro e w3 ⟨rfl, e3⟩; have E3 := Lib.hid (show Ext wr w3 from Ext.trans (by repeat (first | exact Ext.refl _ | refine Ext.drew ?_ | refine Ext.alloc ?_ _)) e3); have x0 := (E3.out.cells.1 _ _ hbS).trans d0; have x1 := (E3.out.cells.1 _ _ hbS).trans d1; have x2 := (E3.out.cells.1 _ _ hbS).trans d2; have L3 : kb < w3.heap.size := Nat.lt_of_lt_of_le hbS E3.out.le; have nn3 : ¬ w3.heap.size = kb := Nat.ne_of_gt L3; have nm3 : ¬ kb = w3.heap.size := Nat.ne_of_lt L3; (try (have hq : Ext (World.alloc wr.drew (.cells #[.int .i64 0, .int .i64 0, .string ⟨#[]⟩] 34)) w3 := (by with_reducible exact e3); have ZA := Lib.hid (ZV.new wr.heap.size rfl hq); clear hq)); (try (have hq : Ext (World.drew (World.alloc wr (.cells #[.int .i64 0, .int .i64 0, .string ⟨#[]⟩] 34))) w3 := (by with_reducible exact e3); have ZA := Lib.hid (ZV.newd wr.heap.size rfl hq); clear hq)); clear e3)
        | (go_at_call 14; refine (hG.out _ (by repeat (first | exact E3.out | refine Ext.alloc ?_ _))).mono ?_; rintro e w5 ⟨rfl, e5⟩; have E5 := Lib.hid (show Ext wr w5 from Ext.trans (by repeat (first | exact E3.out | refine Ext.alloc ?_ _)) e5); have v0 := (E5.out.cells.1 _ _ hbS).trans d0; have v1 := (E5.out.cells.1 _ _ hbS).trans d1; have v2 := (E5.out.cells.1 _ _ hbS).trans d2; have L5 : kb < w5.heap.size := Nat.lt_of_lt_of_le hbS E5.out.le; have nn5 : ¬ w5.heap.size = kb := Nat.ne_of_gt L5; have nm5 : ¬ kb = w5.heap.size := Nat.ne_of_lt L5; (try (have hz : Hid (ZV w3 wr.heap.size) := (by with_reducible assumption); have ZZ := Lib.hid (hz.out.ext e5); obtain ⟨zl, zv0, zv1, zv2, zf0, zf1, zf2⟩ := ZZ.out.facts; clear hz)); (try (have hq : Ext (World.alloc w3 (.cells #[.int .i64 0, .int .i64 0, .string ⟨#[]⟩] 34)) w5 := (by with_reducible exact e5); have ZZ := Lib.hid (ZV.new w3.heap.size rfl hq); obtain ⟨zl, zv0, zv1, zv2, zf0, zf1, zf2⟩ := ZZ.out.facts; clear hq)); clear e5))
      all_goals go_wp2_with fail
      all_goals (
       go_meet
       first
        | exact ⟨_, rfl, hlowW, Lib.hid ⟨put3 ZZ.out _ _ _, ((E5.out.setCell (Nat.le_refl _) _).setCell (Nat.le_refl _) _).setCell (Nat.le_refl _) _⟩⟩
        | exact ⟨_, rfl, Nat.le_trans hlowW E3.out.le, Lib.hid ⟨put3 ZZ.out _ _ _, ((E5.out.setCell E3.out.le _).setCell E3.out.le _).setCell E3.out.le _⟩⟩
        | exact ⟨_, rfl, Nat.le_trans hlowW E5.out.le, Lib.hid ⟨Blk.new _ _ _, E5.out.alloc _⟩⟩)
     case rest =>
     obtain ⟨bx, rfl, hbx, HXX⟩ := hcut
     obtain ⟨wy, rfl⟩ : ∃ wy : World, wy = wc := ⟨_, rfl⟩
     have EY := Lib.hid HXX.out.2
     have BY := Lib.hid HXX.out.1
     have hR2 := Lib.hid (fun (Z : World) (hZ : Ext wy Z) => hR.out Z (EY.out.trans hZ))
     replace d0 := (EY.out.cells.1 _ _ hkb).trans d0
     replace d1 := (EY.out.cells.1 _ _ hkb).trans d1
     replace d2 := (EY.out.cells.1 _ _ hkb).trans d2
     have hkb2 : kb < wy.heap.size := Nat.lt_of_lt_of_le hkb EY.out.le
     have hlb2 : lb < wy.heap.size := Nat.lt_of_lt_of_le hlb EY.out.le
     replace f0 := (EY.out.cells.1 _ _ hlb).trans f0
     replace f1 := (EY.out.cells.1 _ _ hlb).trans f1
     replace f2 := (EY.out.cells.1 _ _ hlb).trans f2
     clear HXX hkb hlb hR hG
     go_wp2_with fail
     go_upto_region 19 with (fail)
     go_cut [19] (fun s19 wx => ∃ bv : Nat, s19 = .pointer (some ⟨bv, 0, none⟩) ∧ wy.heap.size ≤ bv ∧ Hid (Blk wx bv 34 #[.int .i64 gk, .int .i64 gn, .string gs] ∧ Ext wy wx))
     case first =>
      have hlowW : wy.heap.size ≤ wy.heap.size := by omega
      have hnb : ¬ wy.heap.size = kb := by omega
      have hnb2 : ¬ kb = wy.heap.size := by omega
      have hbS : kb < wy.heap.size := by omega
      go_region_held3 (fun w' => w'.cell? ⟨kb, j * 3, none⟩ = some (.int .i64 k0) ∧ w'.cell? ⟨kb, j * 3 + 1, none⟩ = some (.int .i64 n0) ∧ w'.cell? ⟨kb, j * 3 + 2, none⟩ = some (.string s0)) (go_keep)
       (first
        | (go_at_call 12; refine (ltab_any _ _).mono ?_; rintro e w3 ⟨rfl, e3⟩; have E3 := Lib.hid (show Ext wy w3 from Ext.trans (by repeat (first | exact Ext.refl _ | refine Ext.drew ?_ | refine Ext.alloc ?_ _)) e3); have x0 := (E3.out.cells.1 _ _ hbS).trans d0; have x1 := (E3.out.cells.1 _ _ hbS).trans d1; have x2 := (E3.out.cells.1 _ _ hbS).trans d2; have L3 : kb < w3.heap.size := Nat.lt_of_lt_of_le hbS E3.out.le; have nn3 : ¬ w3.heap.size = kb := Nat.ne_of_gt L3; have nm3 : ¬ kb = w3.heap.size := Nat.ne_of_lt L3; (try (have hq : Ext (World.alloc wy.drew (.cells #[.int .i64 0, .int .i64 0, .string ⟨#[]⟩] 34)) w3 := (by with_reducible exact e3); have ZA := Lib.hid (ZV.new wy.heap.size rfl hq); clear hq)); (try (have hq : Ext (World.drew (World.alloc wy (.cells #[.int .i64 0, .int .i64 0, .string ⟨#[]⟩] 34))) w3 := (by with_reducible exact e3); have ZA := Lib.hid (ZV.newd wy.heap.size rfl hq); clear hq)); clear e3)
        | (go_at_call 15; refine (hR2.out _ (by repeat (first | exact E3.out | refine Ext.alloc ?_ _))).mono ?_; rintro e w5 ⟨rfl, e5⟩; have E5 := Lib.hid (show Ext wy w5 from Ext.trans (by repeat (first | exact E3.out | refine Ext.alloc ?_ _)) e5); have v0 := (E5.out.cells.1 _ _ hbS).trans d0; have v1 := (E5.out.cells.1 _ _ hbS).trans d1; have v2 := (E5.out.cells.1 _ _ hbS).trans d2; have L5 : kb < w5.heap.size := Nat.lt_of_lt_of_le hbS E5.out.le; have nn5 : ¬ w5.heap.size = kb := Nat.ne_of_gt L5; have nm5 : ¬ kb = w5.heap.size := Nat.ne_of_lt L5; (try (have hz : Hid (ZV w3 wy.heap.size) := (by with_reducible assumption); have ZZ := Lib.hid (hz.out.ext e5); obtain ⟨zl, zv0, zv1, zv2, zf0, zf1, zf2⟩ := ZZ.out.facts; clear hz)); (try (have hq : Ext (World.alloc w3 (.cells #[.int .i64 0, .int .i64 0, .string ⟨#[]⟩] 34)) w5 := (by with_reducible exact e5); have ZZ := Lib.hid (ZV.new w3.heap.size rfl hq); obtain ⟨zl, zv0, zv1, zv2, zf0, zf1, zf2⟩ := ZZ.out.facts; clear hq)); clear e5))
      all_goals go_wp2_with fail
      all_goals (
       go_meet
       first
        | exact ⟨_, rfl, hlowW, Lib.hid ⟨put3 ZZ.out _ _ _, ((E5.out.setCell (Nat.le_refl _) _).setCell (Nat.le_refl _) _).setCell (Nat.le_refl _) _⟩⟩
        | exact ⟨_, rfl, Nat.le_trans hlowW E3.out.le, Lib.hid ⟨put3 ZZ.out _ _ _, ((E5.out.setCell E3.out.le _).setCell E3.out.le _).setCell E3.out.le _⟩⟩
        | exact ⟨_, rfl, Nat.le_trans hlowW E5.out.le, Lib.hid ⟨Blk.new _ _ _, E5.out.alloc _⟩⟩)
     case rest =>
     obtain ⟨by_, rfl, hby, HYY⟩ := hcut
     obtain ⟨wz, rfl⟩ : ∃ wz : World, wz = wc := ⟨_, rfl⟩
     have EZ := Lib.hid HYY.out.2
     obtain ⟨b0, b1, b2, _⟩ := three HYY.out.1
     obtain ⟨a0, a1, a2, _⟩ := three (BY.out.ext EZ.out)
     have hbl : bx < wz.heap.size := (BY.out.ext EZ.out).lt
     have hbl2 : by_ < wz.heap.size := HYY.out.1.lt
     replace d0 := (EZ.out.cells.1 _ _ hkb2).trans d0
     replace d1 := (EZ.out.cells.1 _ _ hkb2).trans d1
     replace d2 := (EZ.out.cells.1 _ _ hkb2).trans d2
     replace f0 := (EZ.out.cells.1 _ _ hlb2).trans f0
     replace f1 := (EZ.out.cells.1 _ _ hlb2).trans f1
     replace f2 := (EZ.out.cells.1 _ _ hlb2).trans f2
     have hkb3 : kb < wz.heap.size := Nat.lt_of_lt_of_le hkb2 EZ.out.le
     have hlb3 : lb < wz.heap.size := Nat.lt_of_lt_of_le hlb2 EZ.out.le
     have EF := Lib.hid (HX.out.trans (EY.out.trans EZ.out))
     have hgu := fun a b x y W => vl_guard .neq (.inr rfl) a b x y W
     have hv1 : ∀ W, (binOp .neq 34 (vv k0 n0 s0) (vv k0 n0 s0)).run Tryz.prog W = .ok (.bool false) W := fun W => by have := vl_neq ⟨k0, n0, s0⟩ ⟨k0, n0, s0⟩ W; simpa using this
     have hv2 : ∀ W, (binOp .neq 34 (vv gk gn gs) (vv gk gn gs)).run Tryz.prog W = .ok (.bool false) W := fun W => by have := vl_neq ⟨gk, gn, gs⟩ ⟨gk, gn, gs⟩ W; simpa using this
     clear HYY hR2 EY EZ BY hkb2 hlb2
     go_wp2_with fail
     go_region_held3 (fun w' => w'.cell? ⟨kb, j * 3, none⟩ = some (.int .i64 k0) ∧ w'.cell? ⟨kb, j * 3 + 1, none⟩ = some (.int .i64 n0) ∧ w'.cell? ⟨kb, j * 3 + 2, none⟩ = some (.string s0) ∧ w'.cell? ⟨lb, j * 3, none⟩ = some (.int .i64 k0) ∧ w'.cell? ⟨lb, j * 3 + 1, none⟩ = some (.int .i64 n0) ∧ w'.cell? ⟨lb, j * 3 + 2, none⟩ = some (.string s0) ∧ w'.cell? ⟨bx, 0, none⟩ = some (.int .i64 gk) ∧ w'.cell? ⟨bx, 1, none⟩ = some (.int .i64 gn) ∧ w'.cell? ⟨bx, 2, none⟩ = some (.string gs) ∧ w'.cell? ⟨by_, 0, none⟩ = some (.int .i64 gk) ∧ w'.cell? ⟨by_, 1, none⟩ = some (.int .i64 gn) ∧ w'.cell? ⟨by_, 2, none⟩ = some (.string gs)) (go_keep) (fail)
     all_goals go_wp2_with fail
     all_goals (
      go_roundw
      case rel => exact ⟨j + 1, by go_num, by omega, Lib.hid EF.out.drew⟩
      case measure => simp [intOf]; omega)
    ·obtain rfl : j = ks.length := by omega
     have hdj : decide ((ks.length : Int) < (ks.length : Int)) = false := decide_eq_false (by omega)
     have hdj' : decide (ks.length < ks.length) = false := decide_eq_false (by omega)
     go_wp2_with fail
     go_roundw
     case rel => exact ⟨i + 1, by go_num, by omega, Lib.hid (E4.out.trans HX.out)⟩
     case measure => simp [intOf]; omega
  ·obtain rfl : i = m := by omega
   have hd : decide ((i : Int) < (i : Int)) = false := decide_eq_false (by omega)
   have hd' : decide (i < i) = false := decide_eq_false (by omega)
   have EZ0 := Lib.hid (EW2.out.trans HE.out)
   go_wp2_with fail
   refine (works_any _ (HP.out.ext EZ0.out)).mono ?_
   rintro e wz ⟨rfl, ez⟩
   have EZ := Lib.hid (EZ0.out.trans ez)
   clear ez
   go_wp2_with fail
   go_ret
   exact ⟨rfl, EZ.out⟩
end Go.Proofs.YtlfihdcgbhdajaaGreatDoor
