/- The reader of words: kind, name. What a function of the parser holds while it reads: its boxes, the trees read so far, a row that grows. Map literals whose keys are known, as they are made, entry by entry; what is looked up in them. A map whose keys are known, written entry by entry; strings for keys. Words, the plain law's second part: what is printed is read as it was. -/
import Derived.Test.YtkbcnacjaakleaaGreatDoorYP02
import Derived.Deep.RegionHeld3
import Derived.Deep.DeepCutAuto
import Derived.Deep.CutBlock
import Derived.Laws.OwnMore
import Derived.Maps.AppendAt
import Derived.Deep.AppendLies
import Derived.Test.YtkbcnacjaakleaaGreatDoorYP00
import Derived.ChangeMaps4
import Derived.MapKept
import Derived.Test.YtkbcnacjaakleaaGreatDoorProg
set_option maxRecDepth 100000
set_option maxHeartbeats 32000000
set_option linter.unusedVariables false
set_option linter.unusedSimpArgs false
namespace Go.Proofs.YtkbcnacjaakleaaGreatDoor
open Go.RowKit

theorem RdAt.keep {w w1 w' : World} {r : Nat} {q : Option Addr} {c : Nat} {z : Wz} {s0 s : Ps} (h0 : RdAt w r q c z s0) (h : RdAt w1 r q c z s) (hk : ∀ k, k < w.heap.size → w'.heap[k]? = w1.heap[k]?) : RdAt w' r q c z s := by
 have hcell : ∀ b o x, b < w.heap.size → w1.cell? ⟨b, o, none⟩ = some x → w'.cell? ⟨b, o, none⟩ = some x := fun b o x hb hc => by
  unfold World.cell? at hc ⊢
  simp only at hc ⊢
  rw [hk b hb]
  exact hc
 refine ⟨(hk r h0.lt).trans h.blk, fun i hi => ?_, h.len, h.le, h.op⟩
 obtain ⟨b, o, e, n, c0, c1, c2, c3⟩ := h.words i hi
 obtain ⟨b', o', e', _, d0, _⟩ := h0.words i hi
 rw [e] at e'
 obtain ⟨rfl, rfl⟩ : b = b' ∧ o = o' := by cases e'; exact ⟨rfl, rfl⟩
 have hb := cell_lt d0
 exact ⟨b, o, e, n, hcell _ _ _ hb c0, hcell _ _ _ hb c1, hcell _ _ _ hb c2, hcell _ _ _ hb c3⟩
theorem set4_heap (w : World) (b : Nat) (u0 u1 u2 u3 : Value) (k : Nat) (hk : k ≠ b) : ((((w.setCell ⟨b, 0, none⟩ u0).setCell ⟨b, 1, none⟩ u1).setCell ⟨b, 2, none⟩ u2).setCell ⟨b, 3, none⟩ u3).heap[k]? = w.heap[k]? :=
 (Below.heap_setCell _ _ _ k hk).trans ((Below.heap_setCell _ _ _ k hk).trans ((Below.heap_setCell _ _ _ k hk).trans (Below.heap_setCell _ _ _ k hk)))
abbrev wordV (x : Wd) : Value := .agg #[.int .i64 x.k, strV x.t, .int .i64 x.n, .int .i64 x.a]
theorem four_blk {w : World} {b : Nat} {t : TypeId} {x0 x1 x2 x3 : Value} (h : Blk w b t #[x0, x1, x2, x3]) :
  w.cell? ⟨b, 0, none⟩ = some x0 ∧ w.cell? ⟨b, 1, none⟩ = some x1 ∧ w.cell? ⟨b, 2, none⟩ = some x2 ∧ w.cell? ⟨b, 3, none⟩ = some x3 ∧
   w.frozen? ⟨b, 0, none⟩ = false ∧ w.frozen? ⟨b, 1, none⟩ = false ∧ w.frozen? ⟨b, 2, none⟩ = false ∧ w.frozen? ⟨b, 3, none⟩ = false :=
 ⟨h.cell 0, h.cell 1, h.cell 2, h.cell 3, h.frozen 0, h.frozen 1, h.frozen 2, h.frozen 3⟩
abbrev zW : Array Value := #[.int .i64 0, .string ⟨#[]⟩, .int .i64 0, .int .i64 0]
theorem kind_no (w : World) (r : Nat) (q : Option Addr) (c : Nat) (z : Wz) (s : Ps) (kk : Int) (h : RdAt w r q c z s) (hk : kindW z s.p kk = none) :
  Calls Tryz.prog 270 #[.pointer (some ⟨r, 0, none⟩), .int .i64 kk] w fun e w' => e = .returned (.tuple #[.agg zW, .bool false]) ∧ Ext w w' := by
 have HE := Lib.hid ((Ext.refl w).alloc (.cells zW 138))
 have HB := Lib.hid (Blk.new w 138 zW)
 obtain ⟨d0, d1, _⟩ := (h.ext HE.out).four
 have hlr := h.lt
 have hne : ¬ r = w.heap.size := by omega
 have hl := h.len
 obtain ⟨p, o⟩ := s
 have hple : p ≤ z.ws.length := h.le
 simp only at d1 hk
 by_cases hlt : p < z.ws.length
 rotate_left
 ·have hd : decide ((p : Int) < (z.ws.length : Int)) = false := decide_eq_false (by omega)
  have hd2 : decide (p < z.ws.length) = false := decide_eq_false hlt
  clear h hk
  generalize z.ws.length = m at *
  go_enter Tryz.func270, Tryz.ntmps270
  go_wp2_with fail
  generalize w.alloc (.cells zW 138) = W at *
  go_quiet (fail)
  obtain ⟨z0, z1, z2, z3, y0, y1, y2, y3⟩ := four_blk (HB.out.ext ((Ext.refl W).drewN nq))
  have hlt := (HB.out.ext ((Ext.refl W).drewN nq)).lt
  have EQ := Lib.hid (HE.out.drewN nq)
  generalize W.drewN nq = W1 at *
  clear d0 d1
  go_wp2_with fail
  exact bodyPost_ret (v := .tuple #[.agg zW, .bool false]) (by simp [results, Tryz.results270, go_sem, *]) rfl ⟨rfl, (((EQ.out.setCell (Nat.le_refl _) _).setCell (Nat.le_refl _) _).setCell (Nat.le_refl _) _).setCell (Nat.le_refl _) _⟩
 ·have hd : decide ((p : Int) < (z.ws.length : Int)) = true := decide_eq_true (by omega)
  have hd2 : decide (p < z.ws.length) = true := decide_eq_true hlt
  obtain ⟨b, o2, hq, hbr, x0, _, _, _⟩ := (h.ext HE.out).words p hlt
  have hkk : (z.ws[p].k == kk) = false := by
   unfold kindW at hk
   rw [List.getElem?_eq_getElem hlt] at hk
   simp only at hk
   split at hk
   ·cases hk
   ·rename_i hn; rw [beq_eq_false_iff_ne]; exact hn
  subst hq
  have hpI : (p : Int) < (z.ws.length : Int) := by omega
  have hp0 : (0 : Int) ≤ (p : Int) := by omega
  clear h hk
  generalize z.ws[p] = x at *
  obtain ⟨k, xt, n, a⟩ := x
  simp only at x0 hkk
  generalize z.ws.length = m at *
  go_enter Tryz.func270, Tryz.ntmps270
  go_wp2_with fail
  generalize w.alloc (.cells zW 138) = W at *
  go_quiet (fail)
  obtain ⟨z0, z1, z2, z3, y0, y1, y2, y3⟩ := four_blk (HB.out.ext ((Ext.refl W).drewN nq))
  have hlt := (HB.out.ext ((Ext.refl W).drewN nq)).lt
  have EQ := Lib.hid (HE.out.drewN nq)
  generalize W.drewN nq = W1 at *
  clear d0 d1 x0
  go_wp2_with fail
  exact bodyPost_ret (v := .tuple #[.agg zW, .bool false]) (by simp [results, Tryz.results270, go_sem, *]) rfl ⟨rfl, (((EQ.out.setCell (Nat.le_refl _) _).setCell (Nat.le_refl _) _).setCell (Nat.le_refl _) _).setCell (Nat.le_refl _) _⟩
theorem kind_yes (w : World) (r : Nat) (q : Option Addr) (c : Nat) (z : Wz) (s : Ps) (kk : Int) (x : Wd) (h : RdAt w r q c z s) (hk : kindW z s.p kk = some x) :
  Calls Tryz.prog 270 #[.pointer (some ⟨r, 0, none⟩), .int .i64 kk] w fun e w' => e = .returned (.tuple #[wordV x, .bool true]) ∧ RdAt w' r q c z ⟨s.p + 1, s.o⟩ ∧ Only r w w' := by
 have H00 := Lib.hid h
 have HE := Lib.hid ((Ext.refl w).alloc (.cells zW 138))
 have HB := Lib.hid (Blk.new w 138 zW)
 have H := Lib.hid (h.ext HE.out)
 obtain ⟨d0, d1, _, _, f1⟩ := (h.ext HE.out).four
 have hlr := h.lt
 have hne : ¬ r = w.heap.size := by omega
 have hl := h.len
 obtain ⟨p, o⟩ := s
 have hple : p ≤ z.ws.length := h.le
 simp only at d1 hk ⊢
 have hlt := kindW_lt hk
 have hd : decide ((p : Int) < (z.ws.length : Int)) = true := decide_eq_true (by omega)
 have hd2 : decide (p < z.ws.length) = true := decide_eq_true hlt
 obtain ⟨b, o2, hq, hbr, x0, x1, x2, x3⟩ := h.words p hlt
 have hbw := cell_lt x0
 simp only at hbw
 have hbn : ¬ b = w.heap.size := by omega
 have hbn2 : ¬ w.heap.size = b := by omega
 replace x0 := HE.out.cell x0
 replace x1 := HE.out.cell x1
 replace x2 := HE.out.cell x2
 replace x3 := HE.out.cell x3
 have hkx : z.ws[p] = x ∧ x.k = kk := by
  unfold kindW at hk
  rw [List.getElem?_eq_getElem hlt] at hk
  simp only at hk
  split at hk
  ·rename_i hn; cases hk; exact ⟨rfl, hn⟩
  ·cases hk
 rw [hkx.1] at x0 x1 x2 x3
 obtain ⟨k, xt, n, a⟩ := x
 obtain ⟨hzx, rfl⟩ := hkx
 have HZ := Lib.hid hzx
 clear hzx
 subst hq
 have hkk : (k == k) = true := by simp
 have hpI : (p : Int) < (z.ws.length : Int) := by omega
 have hp0 : (0 : Int) ≤ (p : Int) := by omega
 have hwr : IntKind.i64.wrap ((p : Int) + 1) = (p : Int) + 1 := IntWalk.i64_in _ (by omega)
 have hwr2 : IntKind.i64.wrap ((p : Int) + 1 - 1) = (p : Int) := by rw [IntWalk.i64_in _ (by omega)]; omega
 have hwr3 : IntKind.i64.wrap (p : Int) = (p : Int) := IntWalk.i64_in _ (by omega)
 have HLT := Lib.hid hlt
 clear h hk
 simp only at x0 x1 x2 x3
 obtain ⟨m, hm⟩ : ∃ m, z.ws.length = m := ⟨_, rfl⟩
 have HM := Lib.hid hm
 rw [hm] at hd hd2 hl hple hlt hpI d0
 clear hm
 go_enter Tryz.func270, Tryz.ntmps270
 go_wp2_with fail
 generalize w.alloc (.cells zW 138) = W at *
 go_quiet (fail)
 have EQ := Lib.hid (HE.out.drewN nq)
 have H1 := Lib.hid (H.out.ext ((Ext.refl W).drewN nq))
 have B1 := Lib.hid (HB.out.ext ((Ext.refl W).drewN nq))
 clear H HB HE
 generalize W.drewN nq = W1 at *
 have s1 := Lib.hid (H1.out.step (p + 1) HLT.out)
 have ho := Lib.hid (Only.set (Only.refl r W1) 1 (.int .i64 ((p + 1 : Nat) : Int)))
 obtain ⟨_, e1, _, _, f1⟩ := H1.out.four
 have hlr2 := H1.out.lt
 have hne2 : ¬ w.heap.size = r := fun e => hne e.symm
 have C1 := Lib.hid (B1.out.far (p := ⟨r, 1, none⟩) hne2 (.int .i64 ((p + 1 : Nat) : Int)))
 obtain ⟨b', o', hqq, hbr', g0, g1, g2, g3⟩ := s1.out.words p HLT.out
 obtain ⟨rfl, rfl⟩ : b' = b ∧ o' = o2 := by cases hqq; exact ⟨rfl, rfl⟩
 rw [HZ.out] at g0 g1 g2 g3
 simp only at e1 g0 g1 g2 g3
 obtain ⟨e0, e2, _⟩ := s1.out.four
 rw [HM.out] at e0
 simp only at e2
 have hcast : ((p + 1 : Nat) : Int) = (p : Int) + 1 := by omega
 rw [hcast] at e0 e2 g0 g1 g2 g3 ho s1 C1
 clear d0 d1 x0 x1 x2 x3 hqq H1 B1
 go_upto_region 3 with (fail)
 generalize W1.setCell ⟨r, 1, none⟩ (.int .i64 ((p : Int) + 1)) = W2 at *
 obtain ⟨z0, z1, z2, z3, y0, y1, y2, y3⟩ := four_blk C1.out
 have hltw := C1.out.lt
 go_region_held3 (fun w' => w'.cell? ⟨r, 0, none⟩ = some (.slice (some ⟨b', o', none⟩) m c) ∧ w'.cell? ⟨r, 1, none⟩ = some (.int .i64 ((p : Int) + 1)) ∧ w'.cell? ⟨b', o' + p * 4, none⟩ = some (.int .i64 k) ∧ w'.cell? ⟨b', o' + p * 4 + 1, none⟩ = some (.string ⟨xt.toArray⟩) ∧ w'.cell? ⟨b', o' + p * 4 + 2, none⟩ = some (.int .i64 n) ∧ w'.cell? ⟨b', o' + p * 4 + 3, none⟩ = some (.int .i64 a)) (go_keep) (fail)
 all_goals go_wp2_with fail
 all_goals (
  exact bodyPost_ret (v := .tuple #[wordV ⟨k, xt, n, a⟩, .bool true]) (by simp [results, Tryz.results270, go_sem, *]) rfl ⟨rfl, H00.out.keep s1.out (fun j hj => set4_heap _ _ _ _ _ _ j (by omega)),
   Only.drew ((((((Only.of_ext EQ.out).trans ho.out).setCell (p := ⟨w.heap.size, 0, none⟩) (.inr (Nat.le_refl _)) _).setCell (p := ⟨w.heap.size, 1, none⟩) (.inr (Nat.le_refl _)) _).setCell (p := ⟨w.heap.size, 2, none⟩) (.inr (Nat.le_refl _)) _).setCell (p := ⟨w.heap.size, 3, none⟩) (.inr (Nat.le_refl _)) _)⟩)
theorem name_any' (w : World) (r : Nat) (q : Option Addr) (c : Nat) (z : Wz) (s : Ps) (h : RdAt w r q c z s) :
  Calls Tryz.prog 228 #[.pointer (some ⟨r, 0, none⟩)] w (RdR EncB w r q c z (nameR z s)) := by
 obtain ⟨res, hres⟩ : ∃ res, nameR z s = res := ⟨_, rfl⟩
 rw [hres]
 have HR := Lib.hid hres
 have H00 := Lib.hid h
 cases hk : kindW z s.p 0 with
 | none =>
  have hr : res = .error (atW z s.p, 220) := by rw [← hres]; unfold nameR; rw [hk]
  have HRR := Lib.hid hr
  have cK := kind_no w r q c z s 0 h hk
  clear hres hr h hk
  go_enter Tryz.func228, Tryz.ntmps228
  go_wp2_with fail
  refine cK.mono ?_
  rintro e w1 ⟨rfl, e1⟩
  have e2 := Lib.hid (e1.alloc (.cells zW 138))
  clear e1
  go_wp2_with fail
  refine (must_no _ r q c z s (H00.out.ext e2.out)).mono ?_
  rintro e w3 ⟨he, e3⟩
  unfold Stops at he
  subst he
  go_wp2_with fail
  exact ⟨rfl, .mk0 HRR.out (.of_ext (e2.out.trans e3))⟩
 | some x =>
  have hr : res = .ok (⟨x.t.toArray⟩, ⟨s.p + 1, s.o⟩) := by rw [← hres]; unfold nameR; rw [hk]
  have HRR := Lib.hid hr
  have cK := kind_yes w r q c z s 0 x h hk
  clear hres hr h hk
  obtain ⟨k, t, n, a⟩ := x
  go_enter Tryz.func228, Tryz.ntmps228
  go_wp2_with fail
  refine cK.mono ?_
  rintro e w1 ⟨rfl, r1, o1⟩
  have ea := (Ext.refl w1).alloc (.cells #[.int .i64 k, strV t, .int .i64 n, .int .i64 a] 138)
  have R1 := Lib.hid (r1.ext ea)
  have O1 := Lib.hid (o1.ext ea)
  have B1 := Lib.hid (Blk.new w1 138 #[.int .i64 k, strV t, .int .i64 n, .int .i64 a])
  clear r1 o1 ea
  go_wp2_with fail
  refine (must_yes _ r).mono ?_
  rintro e w3 ⟨rfl, rfl⟩
  obtain ⟨z0, z1, z2, z3, _⟩ := four_blk B1.out
  go_wp2_with fail
  go_ret
  exact .mk1 HRR.out O1.out rfl R1.out
structure AppRuns (P : Program) (t ty : TypeId) (v x' : Value) (w : World) (v' : Value) (w' : World) : Prop where
 run : (Builtin.append_ #[t, t] ty #[v, x']).run P w = .ok v' w'
theorem wpList_append_runs {P : Program} {w : World} {ops : Array Oper} {rest : List Oper} {o : Oper} {a : Act} {Q : Exit → Act → World → Prop} (hgd : o.guard = none) (s x : Operand) (t : TypeId)
  (ho : o.op = .call { callee := .builtin .append, args := #[s, x], argTypes := #[t, t] }) (v x' v' : Value) (w' : World) (hs : a.eval s = v) (hx : a.eval x = x')
  (hrun : AppRuns P t o.type v x' w v' w') (h : wpList P ops Q rest (a.put o.dst v') w') : wpList P ops Q (o :: rest) a w :=
 wpList_append_run hgd s x t ho v x' v' w' hs hx hrun.run h
inductive Pt where
 | nd (v : Value) (x : Nd)
 | tx (v : Value) (l : List ByteArray)
 | kd (v : Value) (l : List Nd)
 | bx (b : Nat) (u : Value) (cs : List Value)
def PtAt (ok : Nat → Prop) (w : World) : Pt → Prop
 | .nd v x => ∃ d, NodeAt ok w d v x
 | .tx v l => TxtsAt ok w v l
 | .kd v l => ∃ d, KidsAt ok w d v l
 | .bx b u cs => ok b ∧ ∀ i x, (u :: cs)[i]? = some x → w.cell? ⟨b, i, none⟩ = some x
theorem PtAt.keep {ok ok' : Nat → Prop} {w w' : World} (h : ∀ b o x, ok b → w.cell? ⟨b, o, none⟩ = some x → w'.cell? ⟨b, o, none⟩ = some x) (hk : ∀ b, b < w.heap.size → ok b → ok' b) : ∀ {p : Pt}, PtAt ok w p → PtAt ok' w' p
 | .nd v x, ⟨d, hp⟩ => ⟨d, hp.keep h hk⟩
 | .tx v l, hp => TxtsAt.keep h hk hp
 | .kd v l, ⟨d, hp⟩ => ⟨d, hp.keep h hk⟩
 | .bx b u cs, ⟨h1, h2⟩ => ⟨hk b (cell_lt (h2 0 u rfl)) h1, fun i x hx => h _ _ _ h1 (h2 i x hx)⟩
theorem PtAt.imp {ok ok' : Nat → Prop} {w : World} (hk : ∀ b, b < w.heap.size → ok b → ok' b) {p : Pt} (h : PtAt ok w p) : PtAt ok' w p := h.keep (fun _ _ _ _ hc => hc) hk
theorem PtAt.of_heap {ok ok' : Nat → Prop} {w w' : World} (hok : ∀ b, ok b → ok' b) (hk : ∀ k, ok' k → k < w.heap.size → w'.heap[k]? = w.heap[k]?) {p : Pt} (h : PtAt ok w p) : PtAt ok w' p :=
 h.keep (fun _ _ _ hb hc => cell_of_heap hk (hok _ hb) hc) (fun _ _ h => h)
def TOwn (w : World) (B : Nat) (v : Value) (l : List ByteArray) : Prop := w.ownsRow B 9 1 v l.length (l.map Value.string)
theorem infoTx : (Tryz.prog.info? 9).map (fun i => (i.zero, i.size, i.bytes)) = some (some (.string ⟨#[]⟩), 1, 16) := by kernel_rfl
theorem TOwn.nil (w : World) (B : Nat) : TOwn w B (.slice none 0 0) [] := World.ownsRow_nil _ _ _ _
theorem TOwn.slice {w : World} {B : Nat} {v : Value} {l : List ByteArray} (h : TOwn w B v l) : ∃ q c, v = .slice q l.length c := by
 rcases h.2 with ⟨rfl, h0⟩ | ⟨g, cap, cur, rfl, _⟩
 ·exact ⟨none, 0, by rw [h0]⟩
 ·exact ⟨_, _, rfl⟩
theorem TOwn.sort {w : World} {B : Nat} {v : Value} {l : List ByteArray} (h : TOwn w B v l) : ∀ y, v.ownBlock = some y → B ≤ y ∧ ∃ cs, w.heap[y]? = some (.cells cs 9 (0, 0)) := by
 intro y hy
 rcases h.2 with ⟨h1, h2⟩ | ⟨gb, cap, cur, e1, hB, hc, _⟩
 ·rw [h1] at hy; simp [Value.ownBlock] at hy
 ·rw [e1] at hy
  obtain rfl := Option.some.inj hy
  exact ⟨hB, _, hc⟩
theorem TOwn.lt {w : World} {B : Nat} {v : Value} {l : List ByteArray} (h : TOwn w B v l) : ∀ y, v.ownBlock = some y → B ≤ y ∧ y < w.heap.size := fun y hy => by
 obtain ⟨h1, cs, h2⟩ := h.sort y hy
 exact ⟨h1, (Array.getElem?_eq_some_iff.1 h2).1⟩
theorem TOwn.txts {w : World} {B : Nat} {v : Value} {l : List ByteArray} (h : TOwn w B v l) : TxtsAt (B ≤ ·) w v l := by
 obtain ⟨hl, hrow⟩ := h
 rcases hrow with ⟨h1, h2⟩ | ⟨gb, cap, cur, e1, hB, hc, h2, h3, h4, h5⟩
 ·exact ⟨none, 0, by rw [h1, h2], fun h => by omega⟩
 ·refine ⟨_, _, e1, fun h0 => ⟨gb, 0, rfl, hB, h2, fun i hi => ?_⟩⟩
  rw [cell_of_row w gb _ cur _ (0, 0) hc]
  have : (l.map Value.string)[i]? = some (.string l[i]) := by simp [hi]
  rw [← h5, List.getElem?_take, if_pos (by omega)] at this
  simpa using this
abbrev okS (w : World) (K : List (Nat × Obj)) (lv tv : Value) : Nat → Prop := okO w.heap.size (K.map (·.1)) lv tv
structure St (w W : World) (r : Nat) (q : Option Addr) (c : Nat) (z : Wz) (s : Ps) (K : List (Nat × Obj)) (N : List Pt) (lv : Value) (l : List Nd) (tv : Value) (tl : List ByteArray) : Prop where
 rd : RdAt W r q c z s
 rd0 : ∃ s0, RdAt w r q c z s0
 only : Only r w W
 box : ∀ p ∈ K, w.heap.size ≤ p.1 ∧ W.heap[p.1]? = some p.2
 pts : ∀ p ∈ N, PtAt (okS w K lv tv) W p
 row : KOwn W w.heap.size (K.map (·.1)) tv lv l
 txt : TOwn W w.heap.size tv tl
 tbox : ∀ y, tv.ownBlock = some y → y ∉ K.map (·.1)
section
variable {w W W' : World} {r : Nat} {q : Option Addr} {c : Nat} {z : Wz} {s s' : Ps} {K K' : List (Nat × Obj)} {N N' : List Pt} {lv tv : Value} {l : List Nd} {tl : List ByteArray}
theorem St.low (h : St w W r q c z s K N lv l tv tl) : r < w.heap.size := by obtain ⟨s0, h0⟩ := h.rd0; exact h0.lt
theorem St.le (h : St w W r q c z s K N lv l tv tl) : w.heap.size ≤ W.heap.size := h.only.le
theorem St.start {s : Ps} (h : RdAt w r q c z s) : St w w r q c z s [] [] (.slice none 0 0) [] (.slice none 0 0) [] :=
 ⟨h, ⟨s, h⟩, .refl _ _, fun p hp => (List.not_mem_nil hp).elim, fun p hp => (List.not_mem_nil hp).elim, .nil _ _ _ _, .nil _ _, fun y hy => by simp [Value.ownBlock] at hy⟩
theorem St.call (h : St w W r q c z s K N lv l tv tl) (ho : Only r W W') (hr : RdAt W' r q c z s') : St w W' r q c z s' K N lv l tv tl := by
 have hlow := h.low
 have hk : ∀ k, w.heap.size ≤ k → k < W.heap.size → W'.heap[k]? = W.heap[k]? := fun k hB hk => ho.block k hk (fun e => by cases e; omega)
 exact ⟨hr, h.rd0, h.only.trans ho, fun p hp => by
  obtain ⟨h1, h3⟩ := h.box p hp
  exact ⟨h1, (ho.block p.1 (Array.getElem?_eq_some_iff.1 h3).1 (fun e => by cases e; omega)).trans h3⟩, fun p hp => (h.pts p hp).of_heap (ok' := (w.heap.size ≤ ·)) (fun b hb => hb.lo) hk, h.row.of_heap (fun k hk' => hk k hk'.1), own_blk h.txt (fun g hg hl => hk g (h.txt.lt g hg).1 hl), h.tbox⟩
theorem St.ext (h : St w W r q c z s K N lv l tv tl) (he : Ext W W') : St w W' r q c z s K N lv l tv tl := h.call (.of_ext he) (h.rd.ext he)
theorem St.fresh (h : St w W r q c z s K N lv l tv tl) {b : Nat} (hb : W.heap.size ≤ b) : okS w K lv tv b :=
 ⟨Nat.le_trans h.le hb, fun hm => by
  obtain ⟨p, hp, rfl⟩ := List.mem_map.1 hm
  have := (Array.getElem?_eq_some_iff.1 (h.box p hp).2).1
  omega, fun y hy e => by have := (h.row.lt y hy).2; omega, fun y hy e => by have := (h.txt.lt y hy).2; omega⟩
theorem St.got (h : St w W r q c z s K N lv l tv tl) (ho : Only r W W') (hr : RdAt W' r q c z s') {p : Pt} (hp : PtAt (W.heap.size ≤ ·) W' p) : St w W' r q c z s' K (p :: N) lv l tv tl := by
 have h' := h.call ho hr
 refine ⟨h'.rd, h'.rd0, h'.only, h'.box, fun x hx => ?_, h'.row, h'.txt, h'.tbox⟩
 rcases List.mem_cons.1 hx with rfl | hx
 ·exact hp.imp (fun b _ hb => h.fresh hb)
 ·exact h'.pts x hx
theorem St.add (h : St w W r q c z s K N lv l tv tl) {p : Pt} (hp : PtAt (okS w K lv tv) W p) : St w W r q c z s K (p :: N) lv l tv tl :=
 ⟨h.rd, h.rd0, h.only, h.box, fun x hx => by
  rcases List.mem_cons.1 hx with rfl | hx
  ·exact hp
  ·exact h.pts x hx, h.row, h.txt, h.tbox⟩
theorem St.sub (h : St w W r q c z s K N lv l tv tl) (hN : ∀ p ∈ N', p ∈ N) : St w W r q c z s K N' lv l tv tl :=
 ⟨h.rd, h.rd0, h.only, h.box, fun p hp => h.pts p (hN p hp), h.row, h.txt, h.tbox⟩
theorem St.blk (h : St w W r q c z s K N lv l tv tl) {b : Nat} {t : TypeId} {cs : Array Value} (hm : (b, Obj.cells cs t (0, 0)) ∈ K) : Blk W b t cs := (h.box _ hm).2
theorem St.newK (h : St w W r q c z s K N lv l tv tl) (o : Obj) : St w (W.alloc o) r q c z s ((W.heap.size, o) :: K) N lv l tv tl := by
 have h1 := h.ext ((Ext.refl W).alloc o)
 have okk : ∀ b, b < W.heap.size → okS w K lv tv b → okS w ((W.heap.size, o) :: K) lv tv b := fun b hlt hb => ⟨hb.lo, fun hm => by
  rcases List.mem_cons.1 hm with rfl | hm
  ·simp only at hlt; omega
  ·exact hb.box hm, hb.row, hb.txt⟩
 have hc : ∀ b o' x, W.cell? ⟨b, o', none⟩ = some x → (W.alloc o).cell? ⟨b, o', none⟩ = some x := fun b o' x hx => ((Ext.refl W).alloc o).cell hx
 obtain ⟨d, rows, e1, e2, e3⟩ := h.row.ex
 refine ⟨h1.rd, h1.rd0, h1.only, fun p hp => ?_, fun p hp => (h.pts p hp).keep (fun b o' x _ hx => hc b o' x hx) okk, ⟨⟨d, rows, e1, e2.ext ((Ext.refl W).alloc o), fun x hx => ⟨(e3 x hx).1.keep (fun b o' x _ hx => hc b o' x hx) okk, (e3 x hx).2.keep (fun b o' x _ hx => hc b o' x hx) okk⟩⟩, fun y hy hm => ?_⟩, h1.txt, fun y hy hm => ?_⟩
 ·rcases List.mem_cons.1 hp with rfl | hp
  ·exact ⟨h.le, heap_alloc_new W o⟩
  ·exact h1.box p hp
 ·rcases List.mem_cons.1 hm with rfl | hm
  ·have := (h.row.lt _ hy).2; simp only at this; omega
  ·exact h.row.box y hy hm
 ·rcases List.mem_cons.1 hm with rfl | hm
  ·have := (h.txt.lt _ hy).2; simp only at this; omega
  ·exact h.tbox y hy hm
theorem St.put {b : Nat} {o : Obj} (h : St w W r q c z s ((b, o) :: K) N lv l tv tl) (hne : ∀ p ∈ K, p.1 ≠ b) (hs : W'.heap.size = W.heap.size) (hw : W'.os = W.os ∧ W'.tape = W.tape ∧ W'.output = W.output) (hk : ∀ k, k ≠ b → W'.heap[k]? = W.heap[k]?) {o' : Obj} (hb' : W'.heap[b]? = some o') :
  St w W' r q c z s ((b, o') :: K) N lv l tv tl := by
 obtain ⟨s0, h0⟩ := h.rd0
 have hb := (h.box _ (List.mem_cons_self ..)).1
 simp only at hb
 have hkX : ∀ k, w.heap.size ≤ k ∧ k ∉ ((b, o) :: K).map (·.1) → k < W.heap.size → W'.heap[k]? = W.heap[k]? := fun k h1 _ => hk k (fun e => h1.2 (by rw [e]; exact List.mem_cons_self ..))
 have hX : ((b, o) :: K).map (·.1) = ((b, o') :: K).map (·.1) := rfl
 refine ⟨h0.keep h.rd (fun k hk' => hk k (by omega)), h.rd0, ⟨hw.1.trans h.only.os, hw.2.1.trans h.only.tape, hw.2.2.trans h.only.output, by rw [hs]; exact h.only.size, fun k hk' hn => (hk k (by omega)).trans (h.only.block k hk' hn)⟩, fun p hp => ?_, fun p hp => (h.pts p hp).of_heap (ok' := fun k => w.heap.size ≤ k ∧ k ∉ ((b, o) :: K).map (·.1)) (fun b hb => ⟨hb.lo, hb.box⟩) hkX, h.row.of_heap hkX, own_blk h.txt (fun g hg hl => hkX g ⟨(h.txt.lt g hg).1, h.tbox g hg⟩ hl), h.tbox⟩
 rcases List.mem_cons.1 hp with rfl | hp
 ·exact ⟨hb, hb'⟩
 ·obtain ⟨a1, a3⟩ := h.box p (List.mem_cons_of_mem _ hp)
  exact ⟨a1, (hk p.1 (hne p hp)).trans a3⟩
theorem St.drew (h : St w W r q c z s K N lv l tv tl) : St w W.drew r q c z s K N lv l tv tl := h.ext (Ext.refl W).drew
end
abbrev put6 (W : World) (b : Nat) (u0 u1 u2 u3 u4 u5 : Value) : World := (((((W.setCell ⟨b, 0, none⟩ u0).setCell ⟨b, 1, none⟩ u1).setCell ⟨b, 2, none⟩ u2).setCell ⟨b, 3, none⟩ u3).setCell ⟨b, 4, none⟩ u4).setCell ⟨b, 5, none⟩ u5
theorem put6_far (W : World) (b : Nat) (u0 u1 u2 u3 u4 u5 : Value) (k : Nat) (hk : k ≠ b) : (put6 W b u0 u1 u2 u3 u4 u5).heap[k]? = W.heap[k]? :=
 (Below.heap_setCell _ _ _ k hk).trans ((Below.heap_setCell _ _ _ k hk).trans ((Below.heap_setCell _ _ _ k hk).trans ((Below.heap_setCell _ _ _ k hk).trans ((Below.heap_setCell _ _ _ k hk).trans (Below.heap_setCell _ _ _ k hk)))))
theorem Blk.put6 {W : World} {b : Nat} {t : TypeId} {a0 a1 a2 a3 a4 a5 : Value} (h : Blk W b t #[a0, a1, a2, a3, a4, a5]) (u0 u1 u2 u3 u4 u5 : Value) : Blk (put6 W b u0 u1 u2 u3 u4 u5) b t #[u0, u1, u2, u3, u4, u5] := by
 simpa using (((((h.set_ 0 u0).set_ 1 u1).set_ 2 u2).set_ 3 u3).set_ 4 u4).set_ 5 u5
theorem six_blk {w : World} {b : Nat} {t : TypeId} {x0 x1 x2 x3 x4 x5 : Value} (h : Blk w b t #[x0, x1, x2, x3, x4, x5]) :
  w.cell? ⟨b, 0, none⟩ = some x0 ∧ w.cell? ⟨b, 1, none⟩ = some x1 ∧ w.cell? ⟨b, 2, none⟩ = some x2 ∧ w.cell? ⟨b, 3, none⟩ = some x3 ∧ w.cell? ⟨b, 4, none⟩ = some x4 ∧ w.cell? ⟨b, 5, none⟩ = some x5 ∧
   w.frozen? ⟨b, 0, none⟩ = false ∧ w.frozen? ⟨b, 1, none⟩ = false ∧ w.frozen? ⟨b, 2, none⟩ = false ∧ w.frozen? ⟨b, 3, none⟩ = false ∧ w.frozen? ⟨b, 4, none⟩ = false ∧ w.frozen? ⟨b, 5, none⟩ = false :=
 ⟨h.cell 0, h.cell 1, h.cell 2, h.cell 3, h.cell 4, h.cell 5, h.frozen 0, h.frozen 1, h.frozen 2, h.frozen 3, h.frozen 4, h.frozen 5⟩
section
variable {w W W' : World} {r : Nat} {q : Option Addr} {c : Nat} {z : Wz} {s s' : Ps} {K K' : List (Nat × Obj)} {N N' : List Pt} {lv tv : Value} {l : List Nd} {tl : List ByteArray}
theorem St.set1 {b : Nat} {t : TypeId} {cs : Array Value} (h : St w W r q c z s ((b, .cells cs t (0, 0)) :: K) N lv l tv tl) (hne : ∀ p ∈ K, p.1 ≠ b) (i : Nat) (u : Value) :
  St w (W.setCell ⟨b, i, none⟩ u) r q c z s ((b, .cells (cs.setIfInBounds i u) t (0, 0)) :: K) N lv l tv tl := by
 have hB : Blk W b t cs := (h.box _ (List.mem_cons_self ..)).2
 exact h.put (W' := W.setCell ⟨b, i, none⟩ u) hne (by simp [World.setCell]) ⟨rfl, rfl, rfl⟩ (fun k hk => Below.heap_setCell W ⟨b, i, none⟩ u k hk) (o' := .cells (cs.setIfInBounds i u) t (0, 0)) (hB.set_ i u)
theorem St.set6 {b : Nat} {t : TypeId} {a0 a1 a2 a3 a4 a5 : Value} (h : St w W r q c z s ((b, .cells #[a0, a1, a2, a3, a4, a5] t (0, 0)) :: K) N lv l tv tl) (hne : ∀ p ∈ K, p.1 ≠ b) (u0 u1 u2 u3 u4 u5 : Value) :
  St w (put6 W b u0 u1 u2 u3 u4 u5) r q c z s ((b, .cells #[u0, u1, u2, u3, u4, u5] t (0, 0)) :: K) N lv l tv tl := by
 have e : (((((#[a0, a1, a2, a3, a4, a5].setIfInBounds 0 u0).setIfInBounds 1 u1).setIfInBounds 2 u2).setIfInBounds 3 u3).setIfInBounds 4 u4).setIfInBounds 5 u5 = #[u0, u1, u2, u3, u4, u5] := by simp
 have h' := (((((h.set1 hne 0 u0).set1 hne 1 u1).set1 hne 2 u2).set1 hne 3 u3).set1 hne 4 u4).set1 hne 5 u5
 rw [e] at h'
 exact h'
theorem own_of_heap' {w w' : World} {base : Nat} {e : TypeId} {s : Nat} {v : Value} {n : Nat} {xs : List Value} {row : Option Nat} (hg : w.grownBy w' row) (h : w.ownsRow base e s v n xs) (hne : ∀ y, v.ownBlock = some y → ¬ row = some y) : w'.ownsRow base e s v n xs := by
 obtain ⟨hl, hrow⟩ := h
 refine ⟨hl, ?_⟩
 rcases hrow with h1 | ⟨gb, cap, cur, e1, hB, hc, h2⟩
 ·exact .inl h1
 ·exact .inr ⟨gb, cap, cur, e1, hB, (hg.block gb (Array.getElem?_eq_some_iff.1 hc).1 (fun e => hne gb (by rw [e1]; rfl) e.symm)).trans hc, h2⟩
theorem St.push (h : St w W r q c z s K N lv l tv tl) {x : Nd} {qn ql : Option Addr} {mn cn ml cl : Nat} (hx : Pt.nd (ndV x (.slice qn mn cn) (.slice ql ml cl)) x ∈ N) (hlen : l.length ≤ 2000000) (ty : TypeId) :
  ∃ v' W', AppRuns Tryz.prog 26 ty lv (.slice (some ⟨W.heap.size, 0, none⟩) 1 1) (W.alloc (.cells #[.int .i64 x.k, .string x.name, .string x.text, .int .i64 x.n, .slice qn mn cn, .slice ql ml cl] 28)) v' W' ∧
   St w W' r q c z s K N v' (l ++ [x]) tv tl := by
 have h1 := h.ext ((Ext.refl W).alloc (.cells #[.int .i64 x.k, .string x.name, .string x.text, .int .i64 x.n, .slice qn mn cn, .slice ql ml cl] 28))
 have hb := Blk.new W 28 #[.int .i64 x.k, .string x.name, .string x.text, .int .i64 x.n, .slice qn mn cn, .slice ql ml cl]
 have hsz : (W.alloc (.cells #[.int .i64 x.k, .string x.name, .string x.text, .int .i64 x.n, .slice qn mn cn, .slice ql ml cl] 28)).heap.size = W.heap.size + 1 := size_alloc _ _
 generalize W.alloc (.cells #[.int .i64 x.k, .string x.name, .string x.text, .int .i64 x.n, .slice qn mn cn, .slice ql ml cl] 28) = W1 at *
 obtain ⟨d, rows, hr1, hr2, hr3⟩ := h1.row.ex
 obtain ⟨d', nv', lv', he', ht', hk'⟩ := h1.pts _ hx
 obtain ⟨rfl, rfl⟩ : Value.slice qn mn cn = nv' ∧ Value.slice ql ml cl = lv' := by
  simp only [ndV, Value.agg.injEq] at he'
  have e4 := congrArg (fun a : Array Value => a[4]?) he'
  have e5 := congrArg (fun a : Array Value => a[5]?) he'
  simp at e4 e5
  exact ⟨by simpa using e4, by simpa using e5⟩
 obtain ⟨i0, hi, hz0, hz1, hz2⟩ := info_parts infoNd
 have hlr : rows.length = l.length := by rw [← hr1, List.length_map]
 obtain ⟨v', W', a1, a2, a3, _, a4⟩ := run_append_own_at (P := Tryz.prog) (w := W1) w.heap.size 26 ty 28 i0 _ 6 96 Tryz.underlying26 hi hz0 hz1 hz2 rfl (by omega) lv rows.length (rows.flatMap ndC) hr2 ⟨W.heap.size, 0, none⟩ 1 1
  [.int .i64 x.k, .string x.name, .string x.text, .int .i64 x.n, .slice qn mn cn, .slice ql ml cl] rfl (fun j u hu => by
   have hadd : (⟨W.heap.size, 0, none⟩ : Addr).add j = ⟨W.heap.size, 0 + j, none⟩ := by unfold Addr.add; split <;> simp_all
   rw [hadd, hb.cell, Nat.zero_add]
   simpa using hu) (by intro u hu; simp at hu; rcases hu with rfl | rfl | rfl | rfl | rfl | rfl <;> rfl) (by unfold maxLen; omega) (by omega) h1.le
 have hlow := h.low
 have hrow := h1.row.lt
 have hle := h.le
 have hold := h.row.lt
 -- a cell of a block that is not the row's
 have cell' : ∀ b o y, okS w K lv tv b → W1.cell? ⟨b, o, none⟩ = some y → W'.cell? ⟨b, o, none⟩ = some y := fun b o y hbk hc => by
  have hlt := cell_lt hc
  exact (a3.cell_far ⟨b, o, none⟩ hlt (fun e => hbk.row b e.symm rfl)).trans hc
 have blk' : ∀ k, k < w.heap.size → W'.heap[k]? = W1.heap[k]? := fun k hk => a3.block k (by omega) (fun e => by have := (hrow k e.symm).1; omega)
 have okk : ∀ b, b < W.heap.size → okS w K lv tv b → okS w K v' tv b := fun b hlt hbk => ⟨hbk.lo, hbk.box, fun y hy e => by
  rcases a4 with a4 | a4
  ·rw [a4] at hy; exact hbk.row y hy e
  ·rw [a4] at hy
   have := Option.some.inj hy
   omega, hbk.txt⟩
 have okk1 : ∀ b, b < W1.heap.size → okS w K lv tv b → okS w K v' tv b := fun b hlt hbk => ⟨hbk.lo, hbk.box, fun y hy e => by
  rcases a4 with a4 | a4
  ·rw [a4] at hy; exact hbk.row y hy e
  ·rw [a4] at hy
   have := Option.some.inj hy
   omega, hbk.txt⟩
 obtain ⟨s0, h0⟩ := h.rd0
 refine ⟨v', W', ⟨a1⟩, ⟨h0.keep h1.rd (fun k hk => blk' k hk), h.rd0, ⟨a3.os.trans h1.only.os, a3.tape.trans h1.only.tape, a3.output.trans h1.only.output, Nat.le_trans h1.only.size a3.size, fun k hk hn => (blk' k hk).trans (h1.only.block k hk hn)⟩, fun p hp => ?_, fun p hp => ?_, ⟨⟨max d d', rows ++ [(x, .slice qn mn cn, .slice ql ml cl)], by simp [hr1], ?_, fun y hy => ?_⟩, fun y hy hm => ?_⟩, own_of_heap' a3 h1.txt (fun y hy => by
   obtain ⟨_, cs, hc⟩ := h1.txt.sort y hy
   intro e
   obtain ⟨cs', hc'⟩ := h1.row.sort y e
   rw [hc] at hc'
   injection Option.some.inj hc' with _ e2
   exact absurd e2 (by decide)), h1.tbox⟩⟩
 ·obtain ⟨b1, b3⟩ := h1.box p hp
  exact ⟨b1, (a3.block p.1 (Array.getElem?_eq_some_iff.1 b3).1 (fun e => h1.row.box p.1 e.symm (List.mem_map.2 ⟨p, hp, rfl⟩))).trans b3⟩
 ·exact (h1.pts p hp).keep cell' okk1
 ·show W'.ownsRow w.heap.size 28 6 v' (rows ++ [(x, Value.slice qn mn cn, Value.slice ql ml cl)]).length ((rows ++ [(x, Value.slice qn mn cn, Value.slice ql ml cl)]).flatMap ndC)
  rw [List.flatMap_append, List.length_append]
  simpa [ndC] using a2
 ·rcases List.mem_append.1 hy with hy | hy
  ·exact ⟨(hr3 y hy).1.keep cell' okk1, ((hr3 y hy).2.keep cell' okk1).upto (Nat.le_max_left _ _)⟩
  ·obtain rfl : y = (x, Value.slice qn mn cn, Value.slice ql ml cl) := by simpa using hy
   exact ⟨ht'.keep cell' okk1, (hk'.keep cell' okk1).upto (Nat.le_max_right _ _)⟩
 ·rcases a4 with a4 | a4
  ·rw [a4] at hy; exact h1.row.box y hy hm
  ·rw [a4] at hy
   obtain rfl := Option.some.inj hy
   obtain ⟨p, hp, e⟩ := List.mem_map.1 hm
   have := (Array.getElem?_eq_some_iff.1 (h1.box p hp).2).1
   omega
end
end Go.Proofs.YtkbcnacjaakleaaGreatDoor
namespace Go.Proofs.YtkbcnacjaakleaaGreatDoor
open Go.RowKit

def ents : List (Value × Value) → Nat → List MapEntry
 | [], _ => []
 | x :: l, i => ⟨x.1, x.2, i⟩ :: ents l (i + 1)
theorem ents_append (x : Value × Value) : ∀ (l : List (Value × Value)) (i : Nat), ents (l ++ [x]) i = ents l i ++ [⟨x.1, x.2, i + l.length⟩]
 | [], i => rfl
 | y :: l, i => by simp only [List.cons_append, ents, ents_append x l (i + 1), List.length_cons]; congr 3; simp [Nat.add_comm, Nat.add_left_comm]
def noKey (kind : TypeDesc) (k : Value) (l : List (Value × Value)) : Bool := l.all fun x => Instr.sameNow kind k x.1 == some false
def under (kind : TypeDesc) (k : Value) : List (Value × Value) → Option Value
 | [] => none
 | x :: l => if Instr.sameNow kind k x.1 = some true then some x.2 else if Instr.sameNow kind k x.1 = some false then under kind k l else none
theorem findNow_none {kind : TypeDesc} {k : Value} : ∀ {l : List (Value × Value)} (h : noKey kind k l = true) (i j : Nat), Instr.findNow kind k (ents l i) j = some none
 | [], _, _, _ => rfl
 | x :: l, h, i, j => by
  simp only [noKey, List.all_cons, Bool.and_eq_true, beq_iff_eq] at h
  simp only [ents, Instr.findNow, h.1]
  exact findNow_none (l := l) h.2 (i + 1) (j + 1)
theorem findNow_some {kind : TypeDesc} {k v : Value} : ∀ {l : List (Value × Value)} (h : under kind k l = some v) (i j : Nat), ∃ n, Instr.findNow kind k (ents l i) j = some (some (n, v))
 | x :: l, h, i, j => by
  unfold under at h
  split at h
  ·rename_i h1
   obtain rfl := Option.some.inj h
   exact ⟨j, by simp only [ents, Instr.findNow, h1]⟩
  ·split at h
   ·rename_i h2
    obtain ⟨n, hn⟩ := findNow_some (l := l) h (i + 1) (j + 1)
    exact ⟨n, by simp only [ents, Instr.findNow, h2]; exact hn⟩
   ·cases h
section
variable {P : Program} {T K E : TypeId} {kind : TypeDesc}
def plainKind : TypeDesc → Bool
 | .int _ | .string => true
 | _ => false
theorem run_checkKey_plain (hK : P.underlying K = some kind) (hk : plainKind kind = true) (b : Bool) (k : Value) (w : World) : (Instr.checkKey b 10000 K k).run P w = .ok () w := by
 unfold Instr.checkKey
 simp only [Sem.run_bind, run_underlying hK, Result.andThen_ok]
 cases kind <;> first | (cases k <;> rfl; done) | (simp [plainKind] at hk; done)
theorem run_findKey_plain (hK : P.underlying K = some kind) {k : Value} {es : List MapEntry} {r : Option (Nat × Value)} (h : Instr.findNow kind k es 0 = some r) (w : World) : (Instr.findKey K k es).run P w = .ok r w := by
 simp [Instr.findKey, run_underlying hK, h]
theorem run_lookup_lit (hT : P.underlying T = some (.map K E)) (hK : P.underlying K = some kind) (hk : plainKind kind = true) (l : List (Value × Value)) (n r : Nat) (k v : Value) {w : World} (hb : w.heap[r]? = some (.map (ents l 0).toArray n)) (h : under kind k l = some v) (ok : Bool) :
  (Instr.lookup T (.map (some r)) k ok).run P w = .ok (if ok then .tuple #[v, .bool true] else v) w := by
 obtain ⟨m, hm⟩ := findNow_some h 0 0
 simp only [Instr.lookup, Sem.run_bind, run_underlying hT, Result.andThen_ok, MapKept.run_getObj_map hb, Sem.run_pure, run_checkKey_plain hK hk, run_findKey_plain hK hm]
theorem run_lookup_none (hT : P.underlying T = some (.map K E)) (hK : P.underlying K = some kind) (hk : plainKind kind = true) (l : List (Value × Value)) (n r : Nat) (k z : Value) {w : World} (hz : (zeroValue E).run P w = .ok z w) (hb : w.heap[r]? = some (.map (ents l 0).toArray n)) (h : noKey kind k l = true) (ok : Bool) :
  (Instr.lookup T (.map (some r)) k ok).run P w = .ok (if ok then .tuple #[z, .bool false] else z) w := by
 simp only [Instr.lookup, Sem.run_bind, run_underlying hT, Result.andThen_ok, MapKept.run_getObj_map hb, Sem.run_pure, run_checkKey_plain hK hk, run_findKey_plain hK (findNow_none h 0 0), hz]
end
end Go.Proofs.YtkbcnacjaakleaaGreatDoor
namespace Go.Proofs.YtkbcnacjaakleaaGreatDoor
open Go.RowKit

section
variable {P : Program} {T K E : TypeId} {kind : TypeDesc}
theorem run_insert_at (hT : P.underlying T = some (.map K E)) (hK : P.underlying K = some kind) (hk : plainKind kind = true) (l : List (Value × Value)) (n r : Nat) (k v : Value) {w : World} (hb : w.heap[r]? = some (.map (ents l 0).toArray n)) (hn : n = l.length) (h : noKey kind k l = true) :
  ∃ w1, (Instr.mapUpdate T (.map (some r)) k v).run P w = .ok () w1 ∧ w1.heap[r]? = some (.map (ents (l ++ [(k, v)]) 0).toArray (n + 1)) ∧ (∀ i, i ≠ r → w1.heap[i]? = w.heap[i]?) ∧ w1.heap.size = w.heap.size ∧ w1.os = w.os ∧ w1.tape = w.tape ∧ w1.output = w.output := by
 subst hn
 have hr : r < w.heap.size := by
  rcases Nat.lt_or_ge r w.heap.size with hlt | hge
  ·exact hlt
  ·rw [Array.getElem?_eq_none hge] at hb; cases hb
 refine ⟨{ w with heap := w.heap.setIfInBounds r (.map (ents (l ++ [(k, v)]) 0).toArray (l.length + 1)) }, ?_, ?_, ?_, ?_, rfl, rfl, rfl⟩
 ·simp only [Instr.mapUpdate, Sem.run_bind, run_underlying hT, Result.andThen_ok, MapKept.run_getObj_map hb, run_checkKey_plain hK hk, run_findKey_plain hK (findNow_none h 0 0)]
  simp only [MapKept.run_setObj_map _ hb, List.push_toArray]
  rw [ents_append]
  simp only [Nat.zero_add]
 ·simp [hr]
 ·intro i hi; simp [Array.getElem?_setIfInBounds, Ne.symm hi]
 ·simp
end
theorem Ext.map_ {a w w1 : World} {r : Nat} (h : Ext a w) (hr : a.heap.size ≤ r) (h1 : ∀ i, i ≠ r → w1.heap[i]? = w.heap[i]?) (h2 : w1.heap.size = w.heap.size) (h3 : w1.os = w.os) (h4 : w1.tape = w.tape) (h5 : w1.output = w.output) : Ext a w1 :=
 ⟨h3.trans h.os, h4.trans h.tape, h5.trans h.output, h2 ▸ h.size, fun i hi => (h1 i (by omega)).trans (h.block i hi)⟩
def onesM (l : List ByteArray) : List (Value × Value) := l.map fun s => (.string s, .int .i64 1)
theorem onesM_len (l : List ByteArray) : (onesM l).length = l.length := by simp [onesM]
theorem onesM_snoc (l : List ByteArray) (x : ByteArray) : onesM (l ++ [x]) = onesM l ++ [(.string x, .int .i64 1)] := by simp [onesM]
theorem beq_flip (a b : Array UInt8) : (a == b) = (b == a) := by rw [Bool.eq_iff_iff, beq_iff_eq, beq_iff_eq]; exact eq_comm
theorem same_str (s x : ByteArray) : Instr.sameNow .string (.string s) (.string x) = some (x.data == s.data) := by
 show some (s == x) = _
 rw [show (s == x) = (s.data == x.data) from rfl, beq_flip]
theorem ones_no (s : ByteArray) : ∀ l : List ByteArray, (l.any fun x => x.data == s.data) = false → noKey .string (.string s) (onesM l) = true
 | [], _ => rfl
 | x :: l, h => by
  rw [List.any_cons, Bool.or_eq_false_iff] at h
  have := ones_no s l h.2
  simp only [noKey, onesM, List.map_cons, List.all_cons, same_str, h.1, beq_self_eq_true, Bool.true_and] at this ⊢
  exact this
theorem ones_yes (s : ByteArray) : ∀ l : List ByteArray, (l.any fun x => x.data == s.data) = true → under .string (.string s) (onesM l) = some (.int .i64 1)
 | x :: l, h => by
  simp only [onesM, List.map_cons, under, same_str]
  cases hx : (x.data == s.data)
  ·rw [List.any_cons, hx, Bool.false_or] at h
   simp only [Option.some.injEq, Bool.false_eq_true, if_false, if_true]
   exact ones_yes s l h
  ·simp
theorem zero_int (w : World) : (zeroValue 3).run Tryz.prog w = .ok (.int .i64 0) w := by kernel_rfl
end Go.Proofs.YtkbcnacjaakleaaGreatDoor
namespace Go.Proofs.YtkbcnacjaakleaaGreatDoor
open Go.Lib

theorem u8_eq {c d : UInt8} (h : c.toNat = d.toNat) : c = d := UInt8.toNat_inj.1 h
theorem u8n (n : Nat) : (UInt8.ofNat n).toNat = n % 256 := rfl
theorem u8_of (c : UInt8) : UInt8.ofNat c.toNat = c := by simp
/-! ### Texts -/
theorem textP_end (q : UInt8) (l : List UInt8) : textP q (q :: l) = some ([], 1) := by rw [textP]; simp
theorem textP_plain {q c : UInt8} (l : List UInt8) (h1 : c ≠ q) (h2 : ¬ c.toNat = 10) (h3 : ¬ c.toNat = 92) : textP q (c :: l) = (textP q l).map fun x => (c :: x.1, x.2 + 1) := by
 rw [textP]; simp [h1, h2, h3]
theorem textP_esc {q : UInt8} {l : List UInt8} {b : UInt8} {n : Nat} (hq : (92 : UInt8) ≠ q) (h : escP l = some (b, n)) : textP q (92 :: l) = (textP q (l.drop n)).map fun x => (b :: x.1, x.2 + (n + 1)) := by
 rw [textP]; simp [hq, h]
theorem esc_dig (n : Nat) (hn : n ≤ 255) (l : List UInt8) : escP (UInt8.ofNat (48 + n / 100) :: UInt8.ofNat (48 + n / 10 % 10) :: UInt8.ofNat (48 + n % 10) :: l) = some (UInt8.ofNat n, 3) := by
 have e1 : (UInt8.ofNat (48 + n / 100)).toNat = 48 + n / 100 := by rw [u8n]; omega
 have e2 : (UInt8.ofNat (48 + n / 10 % 10)).toNat = 48 + n / 10 % 10 := by rw [u8n]; omega
 have e3 : (UInt8.ofNat (48 + n % 10)).toNat = 48 + n % 10 := by rw [u8n]; omega
 have d1 : digB (UInt8.ofNat (48 + n / 100)) = true := by unfold digB; rw [e1]; simp; omega
 have d2 : digB (UInt8.ofNat (48 + n / 10 % 10)) = true := by unfold digB; rw [e2]; simp; omega
 have d3 : digB (UInt8.ofNat (48 + n % 10)) = true := by unfold digB; rw [e3]; simp; omega
 have hv : 100 * (48 + n / 100 - 48) + 10 * (48 + n / 10 % 10 - 48) + (48 + n % 10 - 48) = n := by omega
 unfold escP
 dsimp only
 rw [e1, if_neg (by omega), if_neg (by omega), if_neg (by omega), if_neg (by omega), d1, d2, d3, if_pos ⟨rfl, rfl, rfl⟩, e2, e3, hv, if_pos hn]
theorem text_quo : ∀ (l r : List UInt8), textP 39 (l.flatMap quoB ++ 39 :: r) = some (l, (l.flatMap quoB).length + 1)
 | [], r => textP_end 39 r
 | c :: l, r => by
  have ih := text_quo l r
  rw [List.flatMap_cons, List.append_assoc]
  have h92 : (92 : UInt8) ≠ 39 := by decide
  by_cases h1 : c.toNat = 10
  ·obtain rfl : c = 10 := u8_eq h1
   show textP 39 (92 :: 110 :: (l.flatMap quoB ++ 39 :: r)) = _
   rw [textP_esc h92 (b := 10) (n := 1) rfl]
   show Option.map _ (textP 39 (l.flatMap quoB ++ 39 :: r)) = _
   rw [ih]
   rfl
  by_cases h2 : c.toNat = 9
  ·obtain rfl : c = 9 := u8_eq h2
   show textP 39 (92 :: 116 :: (l.flatMap quoB ++ 39 :: r)) = _
   rw [textP_esc h92 (b := 9) (n := 1) rfl]
   show Option.map _ (textP 39 (l.flatMap quoB ++ 39 :: r)) = _
   rw [ih]
   rfl
  by_cases h3 : c.toNat = 13
  ·obtain rfl : c = 13 := u8_eq h3
   show textP 39 (92 :: 114 :: (l.flatMap quoB ++ 39 :: r)) = _
   rw [textP_esc h92 (b := 13) (n := 1) rfl]
   show Option.map _ (textP 39 (l.flatMap quoB ++ 39 :: r)) = _
   rw [ih]
   rfl
  by_cases h4 : c.toNat = 39 ∨ c.toNat = 92
  ·have hq : quoB c = [92, c] := by unfold quoB; rw [if_neg h1, if_neg h2, if_neg h3, if_pos h4]
   have he : escP (c :: (l.flatMap quoB ++ 39 :: r)) = some (c, 1) := by
    unfold escP
    dsimp only
    rw [if_neg (by omega), if_neg (by omega), if_neg (by omega), if_pos (by omega)]
   rw [hq]
   show textP 39 (92 :: c :: (l.flatMap quoB ++ 39 :: r)) = _
   rw [textP_esc h92 he]
   show Option.map _ (textP 39 (l.flatMap quoB ++ 39 :: r)) = _
   rw [ih]
   simp
   try omega
  by_cases h5 : c.toNat < 32 ∨ 126 < c.toNat
  ·have hq : quoB c = [92, UInt8.ofNat (48 + c.toNat / 100), UInt8.ofNat (48 + c.toNat / 10 % 10), UInt8.ofNat (48 + c.toNat % 10)] := by unfold quoB; rw [if_neg h1, if_neg h2, if_neg h3, if_neg h4, if_pos h5]
   have hc : c.toNat ≤ 255 := by have := c.toNat_lt; omega
   rw [hq]
   show textP 39 (92 :: UInt8.ofNat (48 + c.toNat / 100) :: UInt8.ofNat (48 + c.toNat / 10 % 10) :: UInt8.ofNat (48 + c.toNat % 10) :: (l.flatMap quoB ++ 39 :: r)) = _
   rw [textP_esc h92 (esc_dig c.toNat hc _)]
   show Option.map _ (textP 39 (l.flatMap quoB ++ 39 :: r)) = _
   rw [ih, u8_of]
   simp
   try omega
  ·have hq : quoB c = [c] := by unfold quoB; rw [if_neg h1, if_neg h2, if_neg h3, if_neg h4, if_neg h5]
   rw [hq]
   show textP 39 (c :: (l.flatMap quoB ++ 39 :: r)) = _
   rw [textP_plain _ (fun e => h4 (.inl (by rw [e]; rfl))) h1 (fun e => h4 (.inr e)), ih]
   simp [Nat.add_comm, Nat.add_left_comm]
theorem quote_word (s r : List UInt8) : wordP (quoteP s ++ r) = some (⟨3, s, 0, 0⟩, (quoteP s).length) := by
 have e : quoteP s ++ r = 39 :: (s.flatMap quoB ++ 39 :: r) := by simp [quoteP]
 have hr : runP (39 :: (s.flatMap quoB ++ 39 :: r)) = 0 := by simp [runP, wrdB, letB, digB]
 rw [e]
 unfold wordP
 rw [hr, if_neg (by omega)]
 unfold wordQ
 dsimp only
 rw [if_pos (.inl rfl), text_quo]
 simp [quoteP]
theorem lexP_nil (a : Nat) : lexP a [] = .ok [] := by rw [lexP]; simp
theorem lexP_word {a : Nat} {l : List UInt8} {w : Wd} {n : Nat} (hl : l ≠ []) (h : wordP l = some (w, n)) (hn : 1 ≤ n) :
  lexP a l = (lexP (a + n + blankS false (l.drop n)) (l.drop (n + blankS false (l.drop n)))).map fun x => { w with a := a } :: x := by
 rw [lexP, dif_neg hl, h]
 simp only [show n - 1 + 1 = n by omega]
theorem lexP_none {a : Nat} {l : List UInt8} (hl : l ≠ []) (h : wordP l = none) : lexP a l = .error a := by
 rw [lexP, dif_neg hl, h]
theorem blank_quote (s r : List UInt8) : blankS false (quoteP s ++ r) = 0 := by
 have e : quoteP s ++ r = 39 :: (s.flatMap quoB ++ 39 :: r) := by simp [quoteP]
 rw [e]
 simp [blankS, blkB]
theorem quote_pos (s : List UInt8) : 2 ≤ (quoteP s).length := by simp [quoteP]
end Go.Proofs.YtkbcnacjaakleaaGreatDoor
