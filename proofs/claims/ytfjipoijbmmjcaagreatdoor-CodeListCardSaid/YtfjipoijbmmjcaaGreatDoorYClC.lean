/- The document's List. -/
import Derived.Test.YtfjipoijbmmjcaaGreatDoorYB1
import Derived.Lib.AppendStr
namespace Go.Proofs.YtfjipoijbmmjcaaGreatDoor
open Go.RowKit
set_option linter.unusedVariables false
set_option linter.unusedSimpArgs false

structure AppRunsS (P : Program) (t u ty : TypeId) (v x' : Value) (w : World) (v' : Value) (w' : World) : Prop where
 run : (Builtin.append_ #[t, u] ty #[v, x']).run P w = .ok v' w'
theorem step_append_str {P : Program} {w : World} {ops : Array Oper} {o : Oper} {a : Act} {K : Act → World → Prop} {Q : Exit → Act → World → Prop} {E : Prop} (hgd : o.guard = none) (s x : Operand) (t u : TypeId)
  (ho : o.op = .call { callee := .builtin .append, args := #[s, x], argTypes := #[t, u] }) (v x' v' : Value) (w' : World) (hs : a.eval s = v) (hx : a.eval x = x')
  (hrun : AppRunsS P t u o.type v x' w v' w') (h : K (a.put o.dst v') w') :
  if Region.wanted o (yielded ops a.tmps) = true then Oper.wp P o a w K Q else E := by
 have hw : Region.wanted o (yielded ops a.tmps) = true := by simp [Region.wanted, hgd]
 rw [if_pos hw]
 unfold Oper.wp execOp
 simp only [ho, resolve, invoke, builtin, Sem.run_bind, Sem.run_pure, Result.andThen_ok, List.map_toArray, List.map_cons, List.map_nil, hs, hx, hrun.run]
 exact h
theorem wpList_append_str {P : Program} {w : World} {ops : Array Oper} {rest : List Oper} {o : Oper} {a : Act} {Q : Exit → Act → World → Prop} (hgd : o.guard = none) (s x : Operand) (t u : TypeId)
  (ho : o.op = .call { callee := .builtin .append, args := #[s, x], argTypes := #[t, u] }) (v x' v' : Value) (w' : World) (hs : a.eval s = v) (hx : a.eval x = x')
  (hrun : AppRunsS P t u o.type v x' w v' w') (h : wpList P ops Q rest (a.put o.dst v') w') : wpList P ops Q (o :: rest) a w := by
 refine wpList_plain hgd fun K hK => ?_
 unfold Oper.wp execOp
 simp only [ho, resolve, invoke, builtin, Sem.run_bind, Sem.run_pure, Result.andThen_ok, List.map_toArray, List.map_cons, List.map_nil, hs, hx, hrun.run]
 exact hK _ _ h
theorem app_text (w : World) (ty : TypeId) (B : Nat) (v : Value) (l : List UInt8) (s : ByteArray) (h : OwnB w B v l) (hB : B ≤ w.heap.size) (hlen : l.length + s.size ≤ 140737488355328) :
  ∃ v' w', AppRunsS Tryz.prog 46 9 ty v (.string s) w v' w' ∧ AppB w B v (l ++ s.data.toList) w' v' := by
 obtain ⟨i0, hi, hz0, hz1, hz2⟩ := info_parts infoU8
 obtain ⟨v', w', h1, h2, h3, _⟩ := Lib.run_append_own_string (P := Tryz.prog) w B 46 9 ty 5 i0 Tryz.underlying46 Tryz.underlying9 hi hz0 hz1 hz2 v l.length (Lib.byteCells l) h s (by unfold maxLen; omega) (by omega) hB
 exact ⟨v', w', ⟨h1⟩, by unfold OwnB; rw [Lib.byteCells_append, List.length_append]; exact h2, h3, own_block h⟩
theorem OwnB.ne {w : World} {B k : Nat} {v : Value} {l : List UInt8} {t : TypeId} {cs : Array Value} (h : OwnB w B v l) (hb : Blk w k t cs) (ht : t ≠ 5) : ∀ x, v.ownBlock = some x → ¬ k = x := by
 intro x hx e
 subst e
 rcases h.2 with ⟨rfl, h0⟩ | ⟨g, cap, cur, rfl, _, hh, _⟩
 ·simp [Value.ownBlock] at hx
 ·have hg : g = k := by simpa [Value.ownBlock] using hx
  subst hg
  unfold Blk at hb
  rw [hb] at hh
  have e2 : t = 5 := by injection hh with hh; injection hh
  exact ht e2
theorem AppB.blk {w w' : World} {B k : Nat} {v v' : Value} {l l' : List UInt8} {t : TypeId} {cs : Array Value} (h : AppB w B v l w' v') (ho : OwnB w B v l') (hb : Blk w k t cs) (ht : t ≠ 5) : Blk w' k t cs := hb.grown h.grow (ho.ne hb ht)
theorem add_run (a b : ByteArray) (h : a.size + b.size ≤ 9223372036854775807) : ∀ W, (Op.stringOp .add a b).run Tryz.prog W = .ok (.string (a ++ b)) W := fun W => run_string_add_sum W a b h
def sFw : ByteArray := ⟨#[102, 117, 110, 99, 32]⟩
def sSp : ByteArray := ⟨#[32]⟩
def headS (a b : Int) : ByteArray := sFw ++ itS a ++ sSp ++ itS b ++ sNl
def insS (a b c d : Int) : ByteArray := itS a ++ sSp ++ itS b ++ sSp ++ itS c ++ sSp ++ itS d ++ sNl
theorem four18 {w : World} {b : Nat} {t : TypeId} {x y z u : Value} (h : Blk w b t #[x, y, z, u]) : w.cell? ⟨b, 0, none⟩ = some x ∧ w.cell? ⟨b, 1, none⟩ = some y ∧ w.cell? ⟨b, 2, none⟩ = some z ∧ w.cell? ⟨b, 3, none⟩ = some u ∧ b < w.heap.size := ⟨h.cell 0, h.cell 1, h.cell 2, h.cell 3, h.lt⟩
theorem three18 {w : World} {b : Nat} {t : TypeId} {x y z : Value} (h : Blk w b t #[x, y, z]) : w.cell? ⟨b, 0, none⟩ = some x ∧ w.cell? ⟨b, 1, none⟩ = some y ∧ w.cell? ⟨b, 2, none⟩ = some z ∧ b < w.heap.size := ⟨h.cell 0, h.cell 1, h.cell 2, h.lt⟩
theorem headS_eq (f : Pr) : (headS f.pa f.rg).data.toList = headL f := by
 unfold headS headL lineS joinL lineX
 simp [ByteArray.data_append, Lib.join_cons, Lib.joinTail, sFw, sSp, sNl, sFunc, itS]
theorem insS_eq (i : Ins) : (insS i.op i.a i.b i.c).data.toList = insL i := by
 unfold insS insL lineS joinL lineX
 simp [ByteArray.data_append, Lib.join_cons, Lib.joinTail, sSp, sNl, itS]
set_option maxRecDepth 100000 in
set_option maxHeartbeats 8000000 in
theorem rlist_any (p : Pf) (vp vi vt : Value) (w : World) (ht : Pow w) (hp : PfAt w vp vi vt p) (hs : Few (pgOf p)) (hw : ∀ f ∈ p.ps, PrW f) (h64 : ∀ n ∈ p.is, i64 n) (hz : ∀ s ∈ p.ts, s.size ≤ 1048576) :
  Calls Tryz.prog 10 #[.agg #[vp, vi, vt]] w fun e w' => e = .returned (.string ⟨(listL p).toArray⟩) ∧ Ext w w' := by
 obtain ⟨qp, cp, rfl, hxp⟩ := hp.ps
 obtain ⟨qi, ci, rfl, hyi⟩ := hp.is
 obtain ⟨qt, ct, rfl, hyt⟩ := hp.ts
 have HE0 := Lib.hid ((Ext.refl w).alloc (.cells #[.slice qp p.ps.length cp, .slice qi p.is.length ci, .slice qt p.ts.length ct] 26))
 have HYI := Lib.hid hyi
 have HYT := Lib.hid hyt
 have HYP := Lib.hid hxp
 have HPT := Lib.hid (ht.ext HE0.out)
 obtain ⟨n, hn⟩ : ∃ n, p.ps.length = n := ⟨_, rfl⟩
 have n2 : n ≤ 1000 := by rw [← hn]; exact hs.np
 obtain ⟨ni, hni⟩ : ∃ n, p.is.length = n := ⟨_, rfl⟩
 have ni2 : ni ≤ 1000 := by rw [← hni]; exact hs.ni
 obtain ⟨nt, hnt⟩ : ∃ n, p.ts.length = n := ⟨_, rfl⟩
 have nt2 : nt ≤ 1000 := by rw [← hnt]; exact hs.nt
 have HBX := Lib.hid (Blk.new w 26 #[.slice qp p.ps.length cp, .slice qi p.is.length ci, .slice qt p.ts.length ct])
 rw [hn, hni, hnt] at HE0 HBX HPT ⊢
 have HN := Lib.hid hn
 have HNI := Lib.hid hni
 have HNT := Lib.hid hnt
 have HZ := Lib.hid hz
 have H64 := Lib.hid h64
 have HW := Lib.hid hw
 have HNC : Hid (∀ f ∈ p.ps, f.cd.length ≤ 1000) := Lib.hid hs.nc
 clear hn hni hnt hxp hyi hyt hz h64 hp hs hw ht
 go_enter Tryz.func10, Tryz.ntmps10
 go_wp2_with fail
 generalize w.alloc (.cells #[.slice qp n cp, .slice qi ni ci, .slice qt nt ct] 26) = W1 at *
 obtain ⟨B0, hB0⟩ : ∃ b, w.heap.size = b := ⟨_, rfl⟩
 rw [hB0] at HBX ⊢
 clear hB0
 have c0 := HBX.out.cell 0
 have c1 := HBX.out.cell 1
 have c2 := HBX.out.cell 2
 simp only [List.getElem?_toArray, List.getElem?_cons_zero, List.getElem?_cons_succ] at c0 c1 c2
 have C0 := Lib.hid c0
 have C1 := Lib.hid c1
 have C2 := Lib.hid c2
 have hB := HBX.out.lt
 clear c0 c1 c2 HBX
 go_loopw [3, 4] (fun s3 s4 wr => ∃ k : Nat, s4 = .int .i64 (k : Int) ∧ k ≤ n ∧ Hid (OwnB wr W1.heap.size s3 ((p.ps.take k).flatMap protoL)) ∧ Hid (Ext W1 wr)) (fun _ s4 _ => n - (intOf s4).toNat)
 case atStart => exact ⟨0, rfl, Nat.zero_le _, Lib.hid (OwnB.nil _ _), Lib.hid (Ext.refl _)⟩
 case round =>
  obtain ⟨k, rfl, hk, HO, HE⟩ := hrel
  obtain ⟨q0, k0, rfl⟩ := HO.out.slice
  have d0 := HE.out.cell C0.out
  have hBl : B0 < wr.heap.size := Nat.lt_of_lt_of_le hB HE.out.le
  have hk0 : (0 : Int) ≤ (k : Int) := by omega
  by_cases hlt : k < n
  ·have hd : decide ((k : Int) < (n : Int)) = true := decide_eq_true (by omega)
   have hd' : decide (k < n) = true := decide_eq_true hlt
   have hltI : (k : Int) < (n : Int) := by omega
   have hkl : k < p.ps.length := by rw [HN.out]; exact hlt
   obtain ⟨pb, po, rfl, hx⟩ := HYP.out (by omega)
   obtain ⟨q1, cc, e1, e2, e3, e4⟩ := proto_at hx k hkl
   have hpw := HW.out _ (List.getElem_mem hkl)
   have hln := HNC.out _ (List.getElem_mem hkl)
   have HS := Lib.hid (fm_snoc protoL p.ps k hkl)
   have hle0 := fm_le protoL (101 + 1000 * 101) (p.ps.take k) (fun f hf => proto_len' (HW.out f (List.mem_of_mem_take hf)) (HNC.out f (List.mem_of_mem_take hf)))
   have hle : ((p.ps.take k).flatMap protoL).length ≤ 1000 * (101 + 1000 * 101) := by
    refine Nat.le_trans hle0 (Nat.mul_le_mul_right _ ?_)
    have := List.length_take_le k p.ps
    omega
   obtain ⟨f0, hf0⟩ : ∃ f, p.ps[k] = f := ⟨_, rfl⟩
   rw [hf0] at e1 e2 e3 e4 hpw hln HS
   obtain ⟨bs, hbs⟩ : ∃ bs, (p.ps.take k).flatMap protoL = bs := ⟨_, rfl⟩
   rw [hbs] at HO HS hle
   rw [hbs]
   have HLE := Lib.hid hle
   replace e1 := HE.out.cell (HE0.out.cell e1)
   replace e2 := HE.out.cell (HE0.out.cell e2)
   replace e3 := HE.out.cell (HE0.out.cell e3)
   have E4 := Lib.hid e4
   have lb := cell_lt e1
   simp only at lb
   have HPW := Lib.hid hpw
   obtain ⟨fp, fr, fc⟩ := f0
   obtain ⟨m, hm⟩ : ∃ m, fc.length = m := ⟨_, rfl⟩
   simp only at e1 e2 e3 hln
   rw [hm] at e3 hln
   have HM := Lib.hid hm
   have HHL := Lib.hid (head_len hpw)
   have HI1 := Lib.hid (fun (X : World) (hX : Ext (wr.alloc (.cells #[.int .i64 fp, .int .i64 fr, .slice q1 m cc] 39)) X) => itoa_any fp X (HPT.out.ext ((HE.out.alloc _).trans hX)) hpw.pa.1 hpw.pa.2)
   have HI2 := Lib.hid (fun (X : World) (hX : Ext (wr.alloc (.cells #[.int .i64 fp, .int .i64 fr, .slice q1 m cc] 39)) X) => itoa_any fr X (HPT.out.ext ((HE.out.alloc _).trans hX)) hpw.rg.1 hpw.rg.2)
   have s1 : (itS fp).size ≤ 21 := its_len hpw.pa
   have s2 : (itS fr).size ≤ 21 := its_len hpw.rg
   have HS1 := Lib.hid s1
   have HS2 := Lib.hid s2
   have HBF := Lib.hid (Blk.new wr 39 #[.int .i64 fp, .int .i64 fr, .slice q1 m cc])
   clear hf0 hkl hbs hx e4 hle hle0 hm hpw
   go_wp2_with fail
   clear e1 e2 e3 d0 lb
   obtain ⟨WF, hWF⟩ : ∃ W, wr.alloc (.cells #[.int .i64 fp, .int .i64 fr, .slice q1 m cc] 39) = W := ⟨_, rfl⟩
   obtain ⟨kf, hkf⟩ : ∃ k, wr.heap.size = k := ⟨_, rfl⟩
   have HEF := Lib.hid (HE.out.alloc (.cells #[.int .i64 fp, .int .i64 fr, .slice q1 m cc] 39))
   have HOF := Lib.hid (HO.out.ext ((Ext.refl wr).alloc (.cells #[.int .i64 fp, .int .i64 fr, .slice q1 m cc] 39)))
   rw [hWF] at HBF HI1 HI2 HEF HOF ⊢
   rw [hkf] at HBF ⊢
   clear hWF hkf
   replace HO := HOF
   replace HE := HEF
   clear HOF HEF
   obtain ⟨f0, f1, f2, _⟩ := three18 HBF.out
   have lkf := HBF.out.lt
   have ha0 := add_run (⟨#[102, 117, 110, 99, 32]⟩ : ByteArray) (itS fp) (by simp only [ByteArray.size_append', ByteArray.size_mk', List.size_toArray, List.length_cons, List.length_nil]; omega)
   have ha1 := add_run ((⟨#[102, 117, 110, 99, 32]⟩ : ByteArray) ++ itS fp) ⟨#[32]⟩ (by simp only [ByteArray.size_append', ByteArray.size_mk', List.size_toArray, List.length_cons, List.length_nil]; omega)
   have ha2 := add_run ((⟨#[102, 117, 110, 99, 32]⟩ : ByteArray) ++ itS fp ++ (⟨#[32]⟩ : ByteArray)) (itS fr) (by simp only [ByteArray.size_append', ByteArray.size_mk', List.size_toArray, List.length_cons, List.length_nil]; omega)
   have ha3 := add_run ((⟨#[102, 117, 110, 99, 32]⟩ : ByteArray) ++ itS fp ++ (⟨#[32]⟩ : ByteArray) ++ itS fr) ⟨#[10]⟩ (by simp only [ByteArray.size_append', ByteArray.size_mk', List.size_toArray, List.length_cons, List.length_nil]; omega)
   go_region_held3 (fun w' => w'.cell? ⟨kf, 0, none⟩ = some (.int .i64 fp) ∧ w'.cell? ⟨kf, 1, none⟩ = some (.int .i64 fr)) (go_keep)
    (first
     | (go_at_call 25; (with_reducible refine Calls.mono (HI1.out _ ?hX) ?_); (case hX => ((repeat (first | (with_reducible exact EC.out) | (with_reducible exact Ext.refl _) | (with_reducible refine Ext.drew ?_) | (with_reducible refine Ext.alloc ?_ _))); done)); rintro e w6 ⟨rfl, e6⟩; have hq : Ext WF w6 := Ext.trans (by repeat (first | (with_reducible exact EC.out) | (with_reducible exact Ext.refl _) | (with_reducible refine Ext.drew ?_) | (with_reducible refine Ext.alloc ?_ _))) e6; have EC := Lib.hid hq; clear hq e6; have y0 := (EC.out.cells.1 _ _ lkf).trans f0; have y1 := (EC.out.cells.1 _ _ lkf).trans f1; have zkf : kf < w6.heap.size := Nat.lt_of_lt_of_le lkf EC.out.le)
     | (go_at_call 25; (with_reducible refine Calls.mono (HI2.out _ ?hX) ?_); (case hX => ((repeat (first | (with_reducible exact EC.out) | (with_reducible exact Ext.refl _) | (with_reducible refine Ext.drew ?_) | (with_reducible refine Ext.alloc ?_ _))); done)); rintro e w6 ⟨rfl, e6⟩; have hq : Ext WF w6 := Ext.trans (by repeat (first | (with_reducible exact EC.out) | (with_reducible exact Ext.refl _) | (with_reducible refine Ext.drew ?_) | (with_reducible refine Ext.alloc ?_ _))) e6; have EC := Lib.hid hq; clear hq e6; have y0 := (EC.out.cells.1 _ _ lkf).trans f0; have y1 := (EC.out.cells.1 _ _ lkf).trans f1; have zkf : kf < w6.heap.size := Nat.lt_of_lt_of_le lkf EC.out.le)
     | (obtain ⟨v', w7, hrun, happ⟩ := app_text _ 46 W1.heap.size _ bs (headS fp fr) (HO.out.ext EC.out) (Nat.le_trans HE.out.le EC.out.le) (by have h1 := HLE.out; have h2 := HHL.out; rw [← headS_eq] at h2; have h3 : (headS fp fr).data.toList.length = (headS fp fr).size := rfl; simp only at h2; omega); refine step_append_str rfl _ _ 46 9 rfl _ _ _ _ rfl rfl hrun ?_; have HO2 := Lib.hid happ.own; have HE2 := Lib.hid (happ.ext (HE.out.trans EC.out) (Nat.le_refl _)); have HBF2 := Lib.hid (happ.blk (HO.out.ext EC.out) (HBF.out.ext EC.out) (by decide)); have fb := HBF2.out.cell; clear hrun happ))
   clear s1 s2 ha0 ha1 ha2 ha3 f0 f1 f2 lkf fb
   replace HO := HO2
   replace HE := HE2
   replace HBF := HBF2
   clear HO2 HE2 HBF2 HI1 HI2
   obtain ⟨q7, k7, rfl⟩ := HO.out.slice
   obtain ⟨az, has⟩ : ∃ az, bs ++ (headS fp fr).data.toList = az := ⟨_, rfl⟩
   rw [has] at HO
   rw [has]
   have HAL : Hid (az.length ≤ 1000 * (101 + 1000 * 101) + 101) := Lib.hid (by
    rw [← has, List.length_append]
    have h1 := HLE.out
    have h2 := HHL.out
    rw [← headS_eq] at h2
    simp only at h2
    omega)
   have HAS : Hid (bs ++ headL ⟨fp, fr, fc⟩ = az) := Lib.hid (by rw [← headS_eq]; exact has)
   clear has
   go_wp2_with fail
   go_loopw [3, 6] (fun s3 s6 wx => ∃ j : Nat, s6 = .int .i64 (j : Int) ∧ j ≤ m ∧ Hid (OwnB wx W1.heap.size s3 (az ++ (fc.take j).flatMap insL)) ∧ Hid (Ext W1 wx) ∧ Hid (Blk wx kf 39 #[.int .i64 fp, .int .i64 fr, .slice q1 m cc])) (fun _ s6 _ => m - (intOf s6).toNat)
   case atStart => exact ⟨0, rfl, Nat.zero_le _, by simpa using HO, HE, HBF⟩
   case round =>
    obtain ⟨j, rfl, hj, HOj, HEj, HBj⟩ := hrel
    clear HO HE HBF
    obtain ⟨q8, k8, rfl⟩ := HOj.out.slice
    obtain ⟨f0, f1, f2, lkf⟩ := three18 HBj.out
    clear f0 f1
    have hj0 : (0 : Int) ≤ (j : Int) := by omega
    by_cases hltj : j < m
    ·have hdj : decide ((j : Int) < (m : Int)) = true := decide_eq_true (by omega)
     have hdj' : decide (j < m) = true := decide_eq_true hltj
     have hltJ : (j : Int) < (m : Int) := by omega
     have hjl : j < fc.length := by rw [HM.out]; exact hltj
     obtain ⟨qx, cx, hqe, hqx⟩ := E4.out
     simp only [HM.out] at hqe
     obtain ⟨rfl, rfl⟩ : q1 = qx ∧ cc = cx := by injection hqe with h1 _ h3; exact ⟨h1, h3⟩
     obtain ⟨cb, co, rfl, hcx⟩ := hqx (by rw [HM.out]; omega)
     obtain ⟨y0, y1, y2, y3⟩ := hcx j hjl
     replace y0 := HEj.out.cell (HE0.out.cell y0)
     replace y1 := HEj.out.cell (HE0.out.cell y1)
     replace y2 := HEj.out.cell (HE0.out.cell y2)
     replace y3 := HEj.out.cell (HE0.out.cell y3)
     have hiw := HPW.out.cd _ (List.getElem_mem hjl)
     have HP := Lib.hid (fm_snoc insL fc j hjl)
     have hle2 := fm_le insL 101 (fc.take j) (fun i hi => ins_len (HPW.out.cd i (List.mem_of_mem_take hi)))
     have hle3 : ((fc.take j).flatMap insL).length ≤ 1000 * 101 := by
      refine Nat.le_trans hle2 (Nat.mul_le_mul_right _ ?_)
      have := List.length_take_le j fc
      omega
     obtain ⟨i0, hi0⟩ : ∃ i, fc[j] = i := ⟨_, rfl⟩
     rw [hi0] at y0 y1 y2 y3 hiw HP
     obtain ⟨zs, hzs⟩ : ∃ zs, (fc.take j).flatMap insL = zs := ⟨_, rfl⟩
     rw [hzs] at HOj HP hle3
     rw [hzs]
     obtain ⟨ac, hac⟩ : ∃ ac, az ++ zs = ac := ⟨_, rfl⟩
     rw [hac] at HOj
     rw [hac]
     have HAC := Lib.hid hac
     clear hac
     have HL3 := Lib.hid hle3
     have ly := cell_lt y0
     simp only at ly
     obtain ⟨io, ia, ib, ic⟩ := i0
     simp only at y0 y1 y2 y3
     have HIL := Lib.hid (ins_len hiw)
     have HI1 := Lib.hid (fun (X : World) (hX : Ext (wr.alloc (.cells #[.int .i64 io, .int .i64 ia, .int .i64 ib, .int .i64 ic] 42)) X) => itoa_any io X (HPT.out.ext ((HEj.out.alloc _).trans hX)) hiw.op.1 hiw.op.2)
     have HI2 := Lib.hid (fun (X : World) (hX : Ext (wr.alloc (.cells #[.int .i64 io, .int .i64 ia, .int .i64 ib, .int .i64 ic] 42)) X) => itoa_any ia X (HPT.out.ext ((HEj.out.alloc _).trans hX)) hiw.a.1 hiw.a.2)
     have HI3 := Lib.hid (fun (X : World) (hX : Ext (wr.alloc (.cells #[.int .i64 io, .int .i64 ia, .int .i64 ib, .int .i64 ic] 42)) X) => itoa_any ib X (HPT.out.ext ((HEj.out.alloc _).trans hX)) hiw.b.1 hiw.b.2)
     have HI4 := Lib.hid (fun (X : World) (hX : Ext (wr.alloc (.cells #[.int .i64 io, .int .i64 ia, .int .i64 ib, .int .i64 ic] 42)) X) => itoa_any ic X (HPT.out.ext ((HEj.out.alloc _).trans hX)) hiw.c.1 hiw.c.2)
     have s1 : (itS io).size ≤ 21 := its_len hiw.op
     have s2 : (itS ia).size ≤ 21 := its_len hiw.a
     have s3 : (itS ib).size ≤ 21 := its_len hiw.b
     have s4 : (itS ic).size ≤ 21 := its_len hiw.c
     have HBI := Lib.hid (Blk.new wr 42 #[.int .i64 io, .int .i64 ia, .int .i64 ib, .int .i64 ic])
     have HBF := Lib.hid (HBj.out.alloc (.cells #[.int .i64 io, .int .i64 ia, .int .i64 ib, .int .i64 ic] 42))
     clear hqe hqx hcx hle2 hle3 hi0 hzs hjl hiw
     go_wp2_with fail
     clear y0 y1 y2 y3 ly f2 lkf
     obtain ⟨WI, hWI⟩ : ∃ W, wr.alloc (.cells #[.int .i64 io, .int .i64 ia, .int .i64 ib, .int .i64 ic] 42) = W := ⟨_, rfl⟩
     obtain ⟨ki, hki⟩ : ∃ k, wr.heap.size = k := ⟨_, rfl⟩
     have HE := Lib.hid (HEj.out.alloc (.cells #[.int .i64 io, .int .i64 ia, .int .i64 ib, .int .i64 ic] 42))
     have HO := Lib.hid (HOj.out.ext ((Ext.refl wr).alloc (.cells #[.int .i64 io, .int .i64 ia, .int .i64 ib, .int .i64 ic] 42)))
     rw [hWI] at HBI HBF HI1 HI2 HI3 HI4 HE HO ⊢
     rw [hki] at HBI ⊢
     clear hWI hki HOj HEj HBj
     obtain ⟨g0, g1, g2, g3, lki⟩ := four18 HBI.out
     have ha0 := add_run (itS io) ⟨#[32]⟩ (by simp only [ByteArray.size_append', ByteArray.size_mk', List.size_toArray, List.length_cons, List.length_nil]; omega)
     have ha1 := add_run (itS io ++ (⟨#[32]⟩ : ByteArray)) (itS ia) (by simp only [ByteArray.size_append', ByteArray.size_mk', List.size_toArray, List.length_cons, List.length_nil]; omega)
     have ha2 := add_run (itS io ++ (⟨#[32]⟩ : ByteArray) ++ itS ia) ⟨#[32]⟩ (by simp only [ByteArray.size_append', ByteArray.size_mk', List.size_toArray, List.length_cons, List.length_nil]; omega)
     have ha3 := add_run (itS io ++ (⟨#[32]⟩ : ByteArray) ++ itS ia ++ (⟨#[32]⟩ : ByteArray)) (itS ib) (by simp only [ByteArray.size_append', ByteArray.size_mk', List.size_toArray, List.length_cons, List.length_nil]; omega)
     have ha4 := add_run (itS io ++ (⟨#[32]⟩ : ByteArray) ++ itS ia ++ (⟨#[32]⟩ : ByteArray) ++ itS ib) ⟨#[32]⟩ (by simp only [ByteArray.size_append', ByteArray.size_mk', List.size_toArray, List.length_cons, List.length_nil]; omega)
     have ha5 := add_run (itS io ++ (⟨#[32]⟩ : ByteArray) ++ itS ia ++ (⟨#[32]⟩ : ByteArray) ++ itS ib ++ (⟨#[32]⟩ : ByteArray)) (itS ic) (by simp only [ByteArray.size_append', ByteArray.size_mk', List.size_toArray, List.length_cons, List.length_nil]; omega)
     have ha6 := add_run (itS io ++ (⟨#[32]⟩ : ByteArray) ++ itS ia ++ (⟨#[32]⟩ : ByteArray) ++ itS ib ++ (⟨#[32]⟩ : ByteArray) ++ itS ic) ⟨#[10]⟩ (by simp only [ByteArray.size_append', ByteArray.size_mk', List.size_toArray, List.length_cons, List.length_nil]; omega)
     go_region_held3 (fun w' => w'.cell? ⟨ki, 0, none⟩ = some (.int .i64 io) ∧ w'.cell? ⟨ki, 1, none⟩ = some (.int .i64 ia) ∧ w'.cell? ⟨ki, 2, none⟩ = some (.int .i64 ib) ∧ w'.cell? ⟨ki, 3, none⟩ = some (.int .i64 ic)) (go_keep)
      (first
       | (go_at_call 25; (with_reducible refine Calls.mono (HI1.out _ ?hX) ?_); (case hX => ((repeat (first | (with_reducible exact EC.out) | (with_reducible exact Ext.refl _) | (with_reducible refine Ext.drew ?_) | (with_reducible refine Ext.alloc ?_ _))); done)); rintro e w6 ⟨rfl, e6⟩; have hq : Ext WI w6 := Ext.trans (by repeat (first | (with_reducible exact EC.out) | (with_reducible exact Ext.refl _) | (with_reducible refine Ext.drew ?_) | (with_reducible refine Ext.alloc ?_ _))) e6; have EC := Lib.hid hq; clear hq e6; have y0 := (EC.out.cells.1 _ _ lki).trans g0; have y1 := (EC.out.cells.1 _ _ lki).trans g1; have y2 := (EC.out.cells.1 _ _ lki).trans g2; have y3 := (EC.out.cells.1 _ _ lki).trans g3; have zki : ki < w6.heap.size := Nat.lt_of_lt_of_le lki EC.out.le)
       | (go_at_call 25; (with_reducible refine Calls.mono (HI2.out _ ?hX) ?_); (case hX => ((repeat (first | (with_reducible exact EC.out) | (with_reducible exact Ext.refl _) | (with_reducible refine Ext.drew ?_) | (with_reducible refine Ext.alloc ?_ _))); done)); rintro e w6 ⟨rfl, e6⟩; have hq : Ext WI w6 := Ext.trans (by repeat (first | (with_reducible exact EC.out) | (with_reducible exact Ext.refl _) | (with_reducible refine Ext.drew ?_) | (with_reducible refine Ext.alloc ?_ _))) e6; have EC := Lib.hid hq; clear hq e6; have y0 := (EC.out.cells.1 _ _ lki).trans g0; have y1 := (EC.out.cells.1 _ _ lki).trans g1; have y2 := (EC.out.cells.1 _ _ lki).trans g2; have y3 := (EC.out.cells.1 _ _ lki).trans g3; have zki : ki < w6.heap.size := Nat.lt_of_lt_of_le lki EC.out.le)
       | (go_at_call 25; (with_reducible refine Calls.mono (HI3.out _ ?hX) ?_); (case hX => ((repeat (first | (with_reducible exact EC.out) | (with_reducible exact Ext.refl _) | (with_reducible refine Ext.drew ?_) | (with_reducible refine Ext.alloc ?_ _))); done)); rintro e w6 ⟨rfl, e6⟩; have hq : Ext WI w6 := Ext.trans (by repeat (first | (with_reducible exact EC.out) | (with_reducible exact Ext.refl _) | (with_reducible refine Ext.drew ?_) | (with_reducible refine Ext.alloc ?_ _))) e6; have EC := Lib.hid hq; clear hq e6; have y0 := (EC.out.cells.1 _ _ lki).trans g0; have y1 := (EC.out.cells.1 _ _ lki).trans g1; have y2 := (EC.out.cells.1 _ _ lki).trans g2; have y3 := (EC.out.cells.1 _ _ lki).trans g3; have zki : ki < w6.heap.size := Nat.lt_of_lt_of_le lki EC.out.le)
       | (go_at_call 25; (with_reducible refine Calls.mono (HI4.out _ ?hX) ?_); (case hX => ((repeat (first | (with_reducible exact EC.out) | (with_reducible exact Ext.refl _) | (with_reducible refine Ext.drew ?_) | (with_reducible refine Ext.alloc ?_ _))); done)); rintro e w6 ⟨rfl, e6⟩; have hq : Ext WI w6 := Ext.trans (by repeat (first | (with_reducible exact EC.out) | (with_reducible exact Ext.refl _) | (with_reducible refine Ext.drew ?_) | (with_reducible refine Ext.alloc ?_ _))) e6; have EC := Lib.hid hq; clear hq e6; have y0 := (EC.out.cells.1 _ _ lki).trans g0; have y1 := (EC.out.cells.1 _ _ lki).trans g1; have y2 := (EC.out.cells.1 _ _ lki).trans g2; have y3 := (EC.out.cells.1 _ _ lki).trans g3; have zki : ki < w6.heap.size := Nat.lt_of_lt_of_le lki EC.out.le)
       | (obtain ⟨v', w7, hrun, happ⟩ := app_text _ 46 W1.heap.size _ ac (insS io ia ib ic) (HO.out.ext EC.out) (Nat.le_trans HE.out.le EC.out.le) (by rw [← HAC.out, List.length_append]; have h1 := HAL.out; have h4 := HL3.out; have h2 := HIL.out; rw [← insS_eq] at h2; have h3 : (insS io ia ib ic).data.toList.length = (insS io ia ib ic).size := rfl; simp only at h2; omega); refine step_append_str rfl _ _ 46 9 rfl _ _ _ _ rfl rfl hrun ?_; have HO2 := Lib.hid happ.own; have HE2 := Lib.hid (happ.ext (HE.out.trans EC.out) (Nat.le_refl _)); have HBF2 := Lib.hid (happ.blk (HO.out.ext EC.out) (HBF.out.ext EC.out) (by decide)); have HBI2 := Lib.hid (happ.blk (HO.out.ext EC.out) (HBI.out.ext EC.out) (by decide)); have fb := HBI2.out.cell; clear hrun happ))
     clear s1 s2 s3 s4 ha0 ha1 ha2 ha3 ha4 ha5 ha6 g0 g1 g2 g3 lki fb HI1 HI2 HI3 HI4
     have HO3 : Hid (OwnB w7 W1.heap.size v' (az ++ (fc.take (j + 1)).flatMap insL)) := Lib.hid (by
      have e := insS_eq ⟨io, ia, ib, ic⟩
      simp only at e
      have h := HO2.out
      rw [e, ← HAC.out, List.append_assoc, ← HP.out] at h
      exact h)
     clear HO2
     go_wp2_with fail
     go_roundw
     case rel => exact ⟨j + 1, by go_num, by omega, HO3, HE2, HBF2⟩
     case measure => simp [intOf]; omega
    ·obtain rfl : j = m := by omega
     have hdj : decide ((j : Int) < (j : Int)) = false := decide_eq_false (by omega)
     have hdj' : decide (j < j) = false := decide_eq_false (by omega)
     have HO3 : Hid (OwnB wr W1.heap.size (.slice q8 (az ++ (fc.take j).flatMap insL).length k8) ((p.ps.take (k + 1)).flatMap protoL)) := Lib.hid (by
      have h := HOj.out
      rw [HS.out]
      have e : bs ++ protoL ⟨fp, fr, fc⟩ = az ++ (fc.take j).flatMap insL := by
       unfold protoL
       rw [← List.append_assoc, HAS.out]
       simp only
       rw [List.take_of_length_le (by rw [HM.out]; exact Nat.le_refl _)]
      rw [e]; exact h)
     go_wp2_with fail
     go_roundw
     case rel => exact ⟨k + 1, by go_num, by omega, HO3, HEj⟩
     case measure => simp [intOf]; omega
  ·obtain rfl : k = n := by omega
   have hd : decide ((k : Int) < (k : Int)) = false := decide_eq_false (by omega)
   have hd' : decide (k < k) = false := decide_eq_false (by omega)
   obtain ⟨A, hA⟩ : ∃ A, (p.ps.take k).flatMap protoL = A := ⟨_, rfl⟩
   rw [hA] at HO
   rw [hA]
   have HA : Hid (p.ps.flatMap protoL = A) := Lib.hid (by rw [← hA, List.take_of_length_le (by rw [HN.out]; exact Nat.le_refl _)])
   have HAL : Hid (A.length ≤ 1000 * (101 + 1000 * 101)) := Lib.hid (by
    rw [← HA.out]
    refine Nat.le_trans (fm_le protoL (101 + 1000 * 101) p.ps (fun f hf => proto_len' (HW.out f hf) (HNC.out f hf))) (Nat.mul_le_mul_right _ ?_)
    rw [HN.out]; exact n2)
   clear hA
   go_wp2_with fail
   clear d0 hBl
   go_loopw [3, 8] (fun s3 s8 wx => ∃ j : Nat, s8 = .int .i64 (j : Int) ∧ j ≤ ni ∧ Hid (OwnB wx W1.heap.size s3 (A ++ (p.is.take j).flatMap intL)) ∧ Hid (Ext W1 wx)) (fun _ s8 _ => ni - (intOf s8).toNat)
   case atStart => exact ⟨0, rfl, Nat.zero_le _, by simpa using HO, HE⟩
   case round =>
    clear HO HE
    obtain ⟨j, rfl, hj, HO, HE⟩ := hrel
    obtain ⟨q8, k8, rfl⟩ := HO.out.slice
    have d1 := HE.out.cell C1.out
    have hBl : B0 < wr.heap.size := Nat.lt_of_lt_of_le hB HE.out.le
    have hj0 : (0 : Int) ≤ (j : Int) := by omega
    by_cases hltj : j < ni
    ·have hdj : decide ((j : Int) < (ni : Int)) = true := decide_eq_true (by omega)
     have hdj' : decide (j < ni) = true := decide_eq_true hltj
     have hltJ : (j : Int) < (ni : Int) := by omega
     have hjl : j < p.is.length := by rw [HNI.out]; exact hltj
     obtain ⟨ib, io, rfl, hcx⟩ := HYI.out (by omega)
     have y0 := HE.out.cell (HE0.out.cell (hcx j hjl))
     have h6 := H64.out _ (List.getElem_mem hjl)
     have HP := Lib.hid (fm_snoc intL p.is j hjl)
     have hle2 := fm_le intL 30 (p.is.take j) (fun i hi => intL_len (H64.out i (List.mem_of_mem_take hi)))
     have hle3 : ((p.is.take j).flatMap intL).length ≤ 1000 * 30 := by
      refine Nat.le_trans hle2 (Nat.mul_le_mul_right _ ?_)
      have := List.length_take_le j p.is
      omega
     obtain ⟨x0, hx0⟩ : ∃ i, p.is[j] = i := ⟨_, rfl⟩
     rw [hx0] at y0 h6 HP
     obtain ⟨zs, hzs⟩ : ∃ zs, (p.is.take j).flatMap intL = zs := ⟨_, rfl⟩
     rw [hzs] at HO HP hle3
     rw [hzs]
     obtain ⟨ac, hac⟩ : ∃ ac, A ++ zs = ac := ⟨_, rfl⟩
     rw [hac] at HO
     rw [hac]
     have HAC := Lib.hid hac
     clear hac
     have HL3 := Lib.hid hle3
     have ly := cell_lt y0
     simp only at ly
     have HIL := Lib.hid (intL_len h6)
     have HI1 := Lib.hid (fun (X : World) (hX : Ext wr X) => fmt_any x0 X (HPT.out.ext (HE.out.trans hX)) h6)
     have s1 : (itS x0).size ≤ 21 := its_len h6
     clear hcx hle2 hle3 hx0 hzs hjl h6
     go_wp2_with fail
     have ha0 := add_run (⟨#[105, 110, 116, 32]⟩ : ByteArray) (itS x0) (by simp only [ByteArray.size_append', ByteArray.size_mk', List.size_toArray, List.length_cons, List.length_nil]; omega)
     have ha1 := add_run ((⟨#[105, 110, 116, 32]⟩ : ByteArray) ++ itS x0) ⟨#[10]⟩ (by simp only [ByteArray.size_append', ByteArray.size_mk', List.size_toArray, List.length_cons, List.length_nil]; omega)
     refine (HI1.out _ (Ext.refl _)).mono ?_
     rintro e w6 ⟨rfl, e6⟩
     have EC := Lib.hid e6
     obtain ⟨v', w7, hrun, happ⟩ := app_text _ 46 W1.heap.size _ ac (sInt ++ itS x0 ++ sNl) (HO.out.ext e6) (Nat.le_trans HE.out.le e6.le) (by rw [← HAC.out, List.length_append]; have h1 := HAL.out; have h4 := HL3.out; have h2 := HIL.out; have h3 : (intL x0).length = (sInt ++ itS x0 ++ sNl).size := rfl; omega)
     have HRUN := Lib.hid hrun
     have HO2 := Lib.hid happ.own
     have HE2 := Lib.hid (happ.ext (HE.out.trans e6) (Nat.le_refl _))
     clear e6 hrun happ
     go_wp2_with (at_builtin; refine wpList_append_str rfl _ _ 46 9 rfl _ _ _ _ rfl rfl HRUN.out ?_)
     clear s1 ha0 ha1 d1 y0 ly hBl HI1
     have HO3 : Hid (OwnB w7 W1.heap.size v' (A ++ (p.is.take (j + 1)).flatMap intL)) := Lib.hid (by
      have h := HO2.out
      rw [← HAC.out, List.append_assoc] at h
      rw [HP.out]
      exact h)
     clear HO2
     go_roundw
     case rel => exact ⟨j + 1, by go_num, by omega, HO3, HE2⟩
     case measure => simp [intOf]; omega
    ·obtain rfl : j = ni := by omega
     have hdj : decide ((j : Int) < (j : Int)) = false := decide_eq_false (by omega)
     have hdj' : decide (j < j) = false := decide_eq_false (by omega)
     obtain ⟨C, hC⟩ : ∃ C, A ++ (p.is.take j).flatMap intL = C := ⟨_, rfl⟩
     rw [hC] at HO
     rw [hC]
     have HC : Hid (p.ps.flatMap protoL ++ p.is.flatMap intL = C) := Lib.hid (by rw [← hC, List.take_of_length_le (by rw [HNI.out]; exact Nat.le_refl _), HA.out])
     have HCL : Hid (C.length ≤ 1000 * (101 + 1000 * 101) + 1000 * 30) := Lib.hid (by
      rw [← HC.out, List.length_append, HA.out]
      have h1 := HAL.out
      have h2 := fm_le intL 30 p.is (fun n hn => intL_len (H64.out n hn))
      rw [HNI.out] at h2
      omega)
     clear hC
     go_wp2_with fail
     clear d1 hBl
     go_loopw [3, 9] (fun s3 s9 wx => ∃ y : Nat, s9 = .int .i64 (y : Int) ∧ y ≤ nt ∧ Hid (OwnB wx W1.heap.size s3 (C ++ (p.ts.take y).flatMap textL)) ∧ Hid (Ext W1 wx)) (fun _ s9 _ => nt - (intOf s9).toNat)
     case atStart => exact ⟨0, rfl, Nat.zero_le _, by simpa using HO, HE⟩
     case round =>
      clear HO HE
      obtain ⟨y, rfl, hy, HO, HE⟩ := hrel
      obtain ⟨q9, k9, rfl⟩ := HO.out.slice
      have d2 := HE.out.cell C2.out
      have hBl : B0 < wr.heap.size := Nat.lt_of_lt_of_le hB HE.out.le
      have hy0 : (0 : Int) ≤ (y : Int) := by omega
      by_cases hlty : y < nt
      ·have hdy : decide ((y : Int) < (nt : Int)) = true := decide_eq_true (by omega)
       have hdy' : decide (y < nt) = true := decide_eq_true hlty
       have hltY : (y : Int) < (nt : Int) := by omega
       have hyl : y < p.ts.length := by rw [HNT.out]; exact hlty
       obtain ⟨tb, to_, rfl, hcx⟩ := HYT.out (by omega)
       have y0 := HE.out.cell (HE0.out.cell (hcx y hyl))
       have hsz := HZ.out _ (List.getElem_mem hyl)
       have HP := Lib.hid (fm_snoc textL p.ts y hyl)
       have hle2 := fm_le textL 2097160 (p.ts.take y) (fun i hi => textL_len (HZ.out i (List.mem_of_mem_take hi)))
       have hle3 : ((p.ts.take y).flatMap textL).length ≤ 1000 * 2097160 := by
        refine Nat.le_trans hle2 (Nat.mul_le_mul_right _ ?_)
        have := List.length_take_le y p.ts
        omega
       obtain ⟨x0, hx0⟩ : ∃ i, p.ts[y] = i := ⟨_, rfl⟩
       rw [hx0] at y0 hsz HP
       obtain ⟨zs, hzs⟩ : ∃ zs, (p.ts.take y).flatMap textL = zs := ⟨_, rfl⟩
       rw [hzs] at HO HP hle3
       rw [hzs]
       obtain ⟨ac, hac⟩ : ∃ ac, C ++ zs = ac := ⟨_, rfl⟩
       rw [hac] at HO
       rw [hac]
       have HAC := Lib.hid hac
       clear hac
       have HL3 := Lib.hid hle3
       have ly := cell_lt y0
       simp only at ly
       have HIL := Lib.hid (textL_len hsz)
       have HI1 := Lib.hid (fun (X : World) => rhex_any x0 hsz X)
       obtain ⟨hx, hhx⟩ : ∃ h : ByteArray, (⟨(hexS x0.data.toList).toArray⟩ : ByteArray) = h := ⟨_, rfl⟩
       rw [hhx] at HI1
       have s1 : hx.size ≤ 2097153 := by
        rw [← hhx]
        have h8 := hexS_len x0.data.toList
        have h9 : x0.data.toList.length = x0.size := rfl
        show (hexS x0.data.toList).length ≤ _
        omega
       have HHX : Hid ((sText ++ hx ++ sNl).data.toList = textL x0) := Lib.hid (by rw [← hhx]; rfl)
       clear hcx hle2 hle3 hx0 hzs hyl hsz hhx
       go_wp2_with fail
       have ha0 := add_run (⟨#[116, 101, 120, 116, 32]⟩ : ByteArray) hx (by simp only [ByteArray.size_append', ByteArray.size_mk', List.size_toArray, List.length_cons, List.length_nil]; omega)
       have ha1 := add_run ((⟨#[116, 101, 120, 116, 32]⟩ : ByteArray) ++ hx) ⟨#[10]⟩ (by simp only [ByteArray.size_append', ByteArray.size_mk', List.size_toArray, List.length_cons, List.length_nil]; omega)
       refine (HI1.out _).mono ?_
       rintro e w6 ⟨rfl, e6⟩
       have EC := Lib.hid e6
       obtain ⟨v', w7, hrun, happ⟩ := app_text _ 46 W1.heap.size _ ac (sText ++ hx ++ sNl) (HO.out.ext e6) (Nat.le_trans HE.out.le e6.le) (by rw [← HAC.out, List.length_append]; have h1 := HCL.out; have h4 := HL3.out; have h2 := HIL.out; rw [← HHX.out] at h2; have h3 : (sText ++ hx ++ sNl).data.toList.length = (sText ++ hx ++ sNl).size := rfl; omega)
       have HRUN := Lib.hid hrun
       have HO2 := Lib.hid happ.own
       have HE2 := Lib.hid (happ.ext (HE.out.trans e6) (Nat.le_refl _))
       clear e6 hrun happ
       go_wp2_with (at_builtin; refine wpList_append_str rfl _ _ 46 9 rfl _ _ _ _ rfl rfl HRUN.out ?_)
       clear s1 ha0 ha1 d2 y0 ly hBl HI1
       have HO3 : Hid (OwnB w7 W1.heap.size v' (C ++ (p.ts.take (y + 1)).flatMap textL)) := Lib.hid (by
        have h := HO2.out
        rw [HHX.out, ← HAC.out, List.append_assoc] at h
        rw [HP.out]
        exact h)
       clear HO2
       go_roundw
       case rel => exact ⟨y + 1, by go_num, by omega, HO3, HE2⟩
       case measure => simp [intOf]; omega
      ·obtain rfl : y = nt := by omega
       have hdy : decide ((y : Int) < (y : Int)) = false := decide_eq_false (by omega)
       have hdy' : decide (y < y) = false := decide_eq_false (by omega)
       obtain ⟨zz, hzz⟩ : ∃ zz, C ++ (p.ts.take y).flatMap textL = zz := ⟨_, rfl⟩
       rw [hzz] at HO
       rw [hzz]
       have hcv := HO.out.conv
       have HF : Hid (zz = listL p) := Lib.hid (by rw [← hzz, List.take_of_length_le (by rw [HNT.out]; exact Nat.le_refl _), ← HC.out]; rfl)
       clear hzz
       go_wp2_with fail
       go_ret
       exact ⟨by rw [← HF.out]; rfl, HE0.out.trans HE.out⟩
end Go.Proofs.YtfjipoijbmmjcaaGreatDoor
