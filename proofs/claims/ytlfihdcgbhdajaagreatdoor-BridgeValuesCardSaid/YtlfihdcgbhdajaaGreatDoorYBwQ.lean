/- bridge.Reply: what it tells. -/
import Derived.Test.YtlfihdcgbhdajaaGreatDoorYBwP
import Derived.Test.YtlfihdcgbhdajaaGreatDoorYBwJ
namespace Go.Proofs.YtlfihdcgbhdajaaGreatDoor
open Go.RowKit
set_option linter.unusedVariables false
set_option linter.unusedSimpArgs false

theorem rface_done (W : World) (V Y : Nat) (k n : Int) (s : ByteArray) (q : Option Addr) (m c : Nat) (hv : Blk W V 25 #[.int .i64 k, .int .i64 n, .string s, .slice q m c]) (hy : Blk W Y 9 #[.string ⟨#[]⟩]) (R : Ending → World → Prop) (hR : R (.returned (.tuple #[.agg #[.int .i64 k, .int .i64 n, .string s, .slice q m c], .string ⟨#[]⟩])) W) (x0 x1 x2 x3 x6 x7 x8 x9 x10 x11 x12 x13 x14 x15 x16 x17 x18 x19 x20 x21 x22 x23 x24 x25 x26 x27 x28 x29 x30 x31 : Value) :
  Leaves Tryz.prog Tryz.f17 #[x0, x1, x2, x3, .pointer (some ⟨V, 0, none⟩), .pointer (some ⟨Y, 0, none⟩), x6, x7, x8, x9, x10, x11, x12, x13, x14, x15, x16, x17, x18, x19, x20, x21, x22, x23, x24, x25, x26, x27, x28, x29, x30, x31] R [{ target := Target.fn (Fn.func 25) #[], args := #[.pointer (some ⟨Y, 0, none⟩)] }, { target := Target.fn (Fn.func 48) #[.pointer (some ⟨Y, 0, none⟩), .pointer (some ⟨V, 0, none⟩)], args := #[] }] .returning W := by
 have d0 := hv.cell 0
 have d1 := hv.cell 1
 have d2 := hv.cell 2
 have d3 := hv.cell 3
 have d4 := hy.cell 0
 simp only [List.getElem?_toArray, List.getElem?_cons_zero, List.getElem?_cons_succ] at d0 d1 d2 d3 d4
 refine leaves_cons (f := 25) (args := #[.pointer (some ⟨Y, 0, none⟩)]) (by simp) (by simp [go_sem]) ?_
 refine (bcaught_idle _ W).mono ?_
 rintro e u' w1 ⟨rfl, rfl, rfl⟩
 show Leaves _ _ _ _ _ (settle _) w1
 have hs : settle .returning = .returning := rfl
 rw [hs]
 refine leaves_cons (f := 48) (args := #[.pointer (some ⟨Y, 0, none⟩), .pointer (some ⟨V, 0, none⟩)]) (by simp) (by simp [go_sem]) ?_
 refine (wipeR_no Y V .returning w1 hy).mono ?_
 rintro e u' w2 ⟨rfl, rfl, rfl⟩
 show Leaves _ _ _ _ _ (settle _) w2
 rw [hs]
 simp [Leaves, settle, results, Tryz.results17, go_sem, d0, d1, d2, d3, d4]
 exact hR
theorem rface_door (W : World) (V Y : Nat) (why : ByteArray) (hw : ¬ why = sNone) (hne : ¬ V = Y) (a0 a1 a2 a3 : Value) (hv : Blk W V 25 #[a0, a1, a2, a3]) (hy : Blk W Y 9 #[.string ⟨#[]⟩]) (R : Ending → World → Prop)
  (hR : ∀ W1, Only Y W W1 → R (.returned (.tuple #[.agg #[.int .i64 0, .int .i64 0, .string ⟨#[]⟩, .slice none 0 0], .string why])) ((((W1.setCell ⟨V, 0, none⟩ (.int .i64 0)).setCell ⟨V, 1, none⟩ (.int .i64 0)).setCell ⟨V, 2, none⟩ (.string ⟨#[]⟩)).setCell ⟨V, 3, none⟩ (.slice none 0 0))) (x0 x1 x2 x3 x6 x7 x8 x9 x10 x11 x12 x13 x14 x15 x16 x17 x18 x19 x20 x21 x22 x23 x24 x25 x26 x27 x28 x29 x30 x31 : Value) :
  Leaves Tryz.prog Tryz.f17 #[x0, x1, x2, x3, .pointer (some ⟨V, 0, none⟩), .pointer (some ⟨Y, 0, none⟩), x6, x7, x8, x9, x10, x11, x12, x13, x14, x15, x16, x17, x18, x19, x20, x21, x22, x23, x24, x25, x26, x27, x28, x29, x30, x31] R [{ target := Target.fn (Fn.func 25) #[], args := #[.pointer (some ⟨Y, 0, none⟩)] }, { target := Target.fn (Fn.func 48) #[.pointer (some ⟨Y, 0, none⟩), .pointer (some ⟨V, 0, none⟩)], args := #[] }] (.panicking [{ v := bfailV why, recovered := false }]) W := by
 refine leaves_cons (f := 25) (args := #[.pointer (some ⟨Y, 0, none⟩)]) (by simp) (by simp [go_sem]) ?_
 refine (bcaught_panic why ⟨#[]⟩ Y [] W hy).mono ?_
 rintro e u' w1 ⟨rfl, rfl, ho, hy1⟩
 show Leaves _ _ _ _ _ (settle _) w1
 have hs : settle (.panicking [{ v := bfailV why, recovered := true }]) = .returning := rfl
 have hs2 : settle .returning = .returning := rfl
 rw [hs]
 have hv1 : Blk w1 V 25 #[a0, a1, a2, a3] := (ho.block V hv.lt (fun e => hne (Option.some.inj e))).trans hv
 refine leaves_cons (f := 48) (args := #[.pointer (some ⟨Y, 0, none⟩), .pointer (some ⟨V, 0, none⟩)]) (by simp) (by simp [go_sem]) ?_
 refine (wipeR_yes Y V .returning why hw w1 hy1 _ _ _ _ hv1).mono ?_
 rintro e u' w2 ⟨rfl, rfl, rfl⟩
 show Leaves _ _ _ _ _ (settle _) _
 rw [hs2]
 have hR1 := hR w1 ho
 have hv2 := put4 hv1 (.int .i64 0) (.int .i64 0) (.string ⟨#[]⟩) (.slice none 0 0)
 have hy2 := far4 (k := V) hy1 (fun e => hne e.symm) (.int .i64 0) (.int .i64 0) (.string ⟨#[]⟩) (.slice none 0 0)
 generalize (((w1.setCell ⟨V, 0, none⟩ (.int .i64 0)).setCell ⟨V, 1, none⟩ (.int .i64 0)).setCell ⟨V, 2, none⟩ (.string ⟨#[]⟩)).setCell ⟨V, 3, none⟩ (.slice none 0 0) = W2 at hR1 hv2 hy2 ⊢
 clear hv hy hv1 hy1
 have hv := hv2
 have hy := hy2
 have d0 := hv.cell 0
 have d1 := hv.cell 1
 have d2 := hv.cell 2
 have d3 := hv.cell 3
 have d4 := hy.cell 0
 simp only [List.getElem?_toArray, List.getElem?_cons_zero, List.getElem?_cons_succ] at d0 d1 d2 d3 d4
 simp [Leaves, settle, results, Tryz.results17, go_sem, d0, d1, d2, d3, d4]
 exact hR1
def breplyR (H : Hp) (v : Vl) : ByteArray × Rep := match repP H 100 ⟨65536, 1048576⟩ v with
 | .error e => (e, .mk 0 0 sNone [])
 | .ok y => if repOkB y.1 = true then (sNone, y.1) else (sReply, .mk 0 0 sNone [])
def ReplyE (w : World) (r : ByteArray × Rep) (e : Ending) (w' : World) : Prop := ∃ rv, e = .returned (.tuple #[rv, .string r.1]) ∧ RepV (fun b => w.heap.size ≤ b) w' 100 rv r.2 ∧ Ext w w'
theorem ReplyE.no {w w' : World} {why : ByteArray} (h : Ext w w') : ReplyE w (why, .mk 0 0 sNone []) (.returned (.tuple #[.agg #[.int .i64 0, .int .i64 0, .string ⟨#[]⟩, .slice none 0 0], .string why])) w' := ⟨_, rfl, nilR _ _ _ _ _ _, h⟩
set_option maxRecDepth 100000 in
set_option maxHeartbeats 4000000 in
theorem reply_any (w : World) (g : Nat) (tv : Value) (rs : List (Nat × Nat)) (H : Hp) (h : HeapIn w g tv rs H) (hlen : H.tabs.length ≤ 9223372036854775807) (hpw : Pow w) (v : Vl) (hv : in64 v.n) :
  Calls Tryz.prog 17 #[.pointer (some ⟨g, 0, none⟩), v.v] w (ReplyE w (breplyR H v)) := by
 have hmf : ∀ (fn : Fn) (first cap : Array Value) (w : World), (Instr.makeFunc fn first cap).run Tryz.prog w = .ok (.func fn first cap) w := fun _ _ _ _ => rfl
 have e0 : Ext w (((w.alloc (.cells #[.int .i64 v.k, .int .i64 v.n, .string v.s] 34)).alloc (.cells #[.int .i64 0, .int .i64 0, .string ⟨#[]⟩, .slice none 0 0] 25)).alloc (.cells #[.string ⟨#[]⟩] 9)) := (((Ext.refl w).alloc _).alloc _).alloc _
 have HE := Lib.hid e0
 have B0 : Hid (Blk (((w.alloc (.cells #[.int .i64 v.k, .int .i64 v.n, .string v.s] 34)).alloc (.cells #[.int .i64 0, .int .i64 0, .string ⟨#[]⟩, .slice none 0 0] 25)).alloc (.cells #[.string ⟨#[]⟩] 9)) w.heap.size 34 #[.int .i64 v.k, .int .i64 v.n, .string v.s]) := Lib.hid (((Blk.new w _ _).alloc _).alloc _)
 have B1 : Hid (Blk (((w.alloc (.cells #[.int .i64 v.k, .int .i64 v.n, .string v.s] 34)).alloc (.cells #[.int .i64 0, .int .i64 0, .string ⟨#[]⟩, .slice none 0 0] 25)).alloc (.cells #[.string ⟨#[]⟩] 9)) (w.heap.size + 1) 25 #[.int .i64 0, .int .i64 0, .string ⟨#[]⟩, .slice none 0 0]) := Lib.hid (by
  have := Blk.new (w.alloc (.cells #[.int .i64 v.k, .int .i64 v.n, .string v.s] 34)) 25 #[.int .i64 0, .int .i64 0, .string ⟨#[]⟩, .slice none 0 0]
  rw [size_alloc] at this
  exact this.alloc _)
 have B2 : Hid (Blk (((w.alloc (.cells #[.int .i64 v.k, .int .i64 v.n, .string v.s] 34)).alloc (.cells #[.int .i64 0, .int .i64 0, .string ⟨#[]⟩, .slice none 0 0] 25)).alloc (.cells #[.string ⟨#[]⟩] 9)) (w.heap.size + 1 + 1) 9 #[.string ⟨#[]⟩]) := Lib.hid (by
  have := Blk.new ((w.alloc (.cells #[.int .i64 v.k, .int .i64 v.n, .string v.s] 34)).alloc (.cells #[.int .i64 0, .int .i64 0, .string ⟨#[]⟩, .slice none 0 0] 25)) 9 #[.string ⟨#[]⟩]
  rwa [size_alloc, size_alloc] at this)
 have HH := Lib.hid h
 have HP := Lib.hid hpw
 have HL := Lib.hid hlen
 have HV := Lib.hid hv
 have hlow := h.low (x := g) (.inl rfl)
 have HN : Hid (∀ k, w.heap.size ≤ k → ¬ Foot g tv rs k) := Lib.hid (fun k hk hx => by have := h.low hx; omega)
 obtain ⟨r, hr⟩ : ∃ r, breplyR H v = r := ⟨_, rfl⟩
 rw [hr]
 have HR := Lib.hid hr
 clear e0 h hlen hpw hv hr
 go_enter_defers Tryz.func17, Tryz.ntmps17
 go_wp2_with fail
 generalize (((w.alloc (.cells #[.int .i64 v.k, .int .i64 v.n, .string v.s] 34)).alloc (.cells #[.int .i64 0, .int .i64 0, .string ⟨#[]⟩, .slice none 0 0] 25)).alloc (.cells #[.string ⟨#[]⟩] 9)) = W at *
 refine (text_any _ _).mono ?_
 rintro e w1 ⟨rfl, e1⟩
 have C0 := Lib.hid (B0.out.ext e1)
 have C1 := Lib.hid (B1.out.ext e1)
 have C2 := Lib.hid (B2.out.ext e1)
 have E1 := Lib.hid (HE.out.trans e1)
 clear e1 B0 B1 B2 HE
 go_wp2_with fail
 refine (len_call g tv rs H w1 (HH.out.ext E1.out) HL.out).mono ?_
 rintro e w2 ⟨rfl, e2⟩
 have D0 := Lib.hid (C0.out.ext e2)
 have D1 := Lib.hid (C1.out.ext e2)
 have D2 := Lib.hid (C2.out.ext e2)
 have E2 := Lib.hid (E1.out.trans e2)
 clear e2 C0 C1 C2 E1
 go_wp2_with fail
 refine (bmust_yes _ _).mono ?_
 rintro e w3 ⟨rfl, rfl⟩
 have x0 := D0.out.cell 0
 have x1 := D0.out.cell 1
 have x2 := D0.out.cell 2
 simp only [List.getElem?_toArray, List.getElem?_cons_zero, List.getElem?_cons_succ] at x0 x1 x2
 have ew := (Ext.refl w2).alloc (.cells #[.int .i64 65536, .int .i64 1048576, .pointer (some ⟨g, 0, none⟩)] 98)
 have x0' := ew.cell x0
 have x1' := ew.cell x1
 have x2' := ew.cell x2
 have hl2 := D0.out.lt
 have hnw : ¬ w.heap.size = w2.heap.size := by omega
 go_wp2_with fail
 have F0 := Lib.hid (D0.out.ext ew)
 have F1 := Lib.hid (D1.out.ext ew)
 have F2 := Lib.hid (D2.out.ext ew)
 have E3 := Lib.hid (E2.out.trans ew)
 have WW : Hid (WAt (w2.alloc (.cells #[.int .i64 65536, .int .i64 1048576, .pointer (some ⟨g, 0, none⟩)] 98)) w2.heap.size g ⟨65536, 1048576⟩) := Lib.hid (Blk.new w2 _ _)
 have hsz := E2.out.le
 have hsz2 := D2.out.lt
 clear x0 x1 x2 x0' x1' x2' ew hl2 hnw D0 D1 D2 E2
 generalize w2.alloc (.cells #[.int .i64 65536, .int .i64 1048576, .pointer (some ⟨g, 0, none⟩)] 98) = w4 at *
 obtain ⟨wb, hwb⟩ : ∃ wb, w2.heap.size = wb := ⟨_, rfl⟩
 rw [hwb] at WW hsz hsz2 ⊢
 clear hwb
 refine (rep_all 100 (by omega) w4 g tv rs H (HH.out.ext E3.out) HL.out wb ⟨65536, 1048576⟩ ⟨by decide, by decide, by decide, by decide⟩ WW.out (HN.out wb hsz) v HV.out).mono ?_
 intro e w5 hB
 have hB0 := hB
 obtain ⟨o5, hB⟩ := hB
 have E5 := Lib.hid (o5.to_ext E3.out hsz)
 have G1 : Hid (Blk w5 (w.heap.size + 1) 25 #[.int .i64 0, .int .i64 0, .string ⟨#[]⟩, .slice none 0 0]) := Lib.hid ((o5.block (w.heap.size + 1) F1.out.lt (Only.ne_some (by omega))).trans F1.out)
 have G2 : Hid (Blk w5 (w.heap.size + 1 + 1) 9 #[.string ⟨#[]⟩]) := Lib.hid ((o5.block (w.heap.size + 1 + 1) F2.out.lt (Only.ne_some (by omega))).trans F2.out)
 have HK := Lib.hid (repP_keeps HH.out.ok 100 ⟨65536, 1048576⟩ v)
 have HERR := Lib.hid (repP_err (H := H) 100 ⟨65536, 1048576⟩ v)
 have H4 := Lib.hid E3.out.le
 clear o5 F0 F1 F2
 cases hrep : repP H 100 ⟨65536, 1048576⟩ v with
 | error why =>
  rw [hrep] at hB
  have he : Fails why e := hB
  unfold Fails at he
  subst he
  have hw := HERR.out why hrep
  have RR : Hid (r = (why, .mk 0 0 sNone [])) := Lib.hid (by rw [← HR.out]; unfold breplyR; rw [hrep])
  clear hB hB0 hrep
  go_wp2_with fail
  refine rface_door _ (w.heap.size + 1) (w.heap.size + 1 + 1) why hw (by omega) _ _ _ _ G1.out G2.out _ ?_ _ _ _ _ _ _ _ _ _ _ _ _ _ _ _ _ _ _ _ _ _ _ _ _ _ _ _ _ _ _
  intro W1 ho
  rw [RR.out]
  exact ReplyE.no (ext4 (ho.to_ext E5.out (by omega)) (by omega) _ _ _ _)
 | ok y =>
  rw [hrep] at hB
  obtain ⟨x, q1⟩ := y
  obtain ⟨rv, he, ⟨lv, hrv, hl⟩, _⟩ := hB
  obtain ⟨qx, cx, hlv⟩ := hl.slice
  subst he
  subst hrv
  subst hlv
  have h6 := (HK.out x q1 hrep ⟨by decide, by decide, by decide, by decide⟩ HV.out).2
  have RY : Hid (r = if repOkB x = true then (sNone, x) else (sReply, .mk 0 0 sNone [])) := Lib.hid (by rw [← HR.out]; unfold breplyR; rw [hrep])
  have HLX := Lib.hid (show ListAt (fun b => wb < b) w5 100 (.slice qx x.l.length cx) x.l from hl.keep (fun _ _ _ _ hc => hc) (fun b _ (hb : w4.heap.size ≤ b) => by have := WW.out.lt; omega))
  obtain ⟨z0, z1, z2, z3, y0, y1, y2, y3⟩ := four G1.out
  have l1 := G1.out.lt
  clear hB0 hrep hl
  go_wp2_with fail
  have K1 := Lib.hid (put4 G1.out (.int .i64 x.k) (.int .i64 x.n) (.string x.s) (.slice qx x.l.length cx))
  have K2 := Lib.hid (far4 (k := w.heap.size + 1) G2.out (by omega) (.int .i64 x.k) (.int .i64 x.n) (.string x.s) (.slice qx x.l.length cx))
  have K5 := Lib.hid (ext4 (k := w.heap.size + 1) E5.out (by omega) (.int .i64 x.k) (.int .i64 x.n) (.string x.s) (.slice qx x.l.length cx))
  have KX := Lib.hid (HLX.out.keep (w' := (((w5.setCell ⟨w.heap.size + 1, 0, none⟩ (.int .i64 x.k)).setCell ⟨w.heap.size + 1, 1, none⟩ (.int .i64 x.n)).setCell ⟨w.heap.size + 1, 2, none⟩ (.string x.s)).setCell ⟨w.heap.size + 1, 3, none⟩ (.slice qx x.l.length cx)) (ok' := fun b => wb < b) (fun b o u (hb : wb < b) hc => (World.cell?_of_block (heap4 (k := w.heap.size + 1) (b := b) w5 (by omega) _ _ _ _)).trans hc) (fun _ _ h => h))
  clear z0 z1 z2 z3 y0 y1 y2 y3 l1 HLX G1 G2 E5
  generalize (((w5.setCell ⟨w.heap.size + 1, 0, none⟩ (.int .i64 x.k)).setCell ⟨w.heap.size + 1, 1, none⟩ (.int .i64 x.n)).setCell ⟨w.heap.size + 1, 2, none⟩ (.string x.s)).setCell ⟨w.heap.size + 1, 3, none⟩ (.slice qx x.l.length cx) = w6 at *
  refine (chkR_any w6 x qx cx 100 (KX.out.keep (fun _ _ _ _ hc => hc) (fun b hlt _ => hlt)) h6 (HP.out.ext K5.out)).mono ?_
  rintro e w7 ⟨rfl, e7⟩
  have M1 := Lib.hid (K1.out.ext e7)
  have M2 := Lib.hid (K2.out.ext e7)
  have M5 := Lib.hid (K5.out.trans e7)
  have MX := Lib.hid (KX.out.keep (fun b o u _ hc => e7.cell hc) (fun _ _ h => h))
  clear e7 K1 K2 K5 KX
  cases hok : repOkB x with
  | false =>
   have RR : Hid (r = (sReply, .mk 0 0 sNone [])) := Lib.hid (by rw [RY.out, hok]; rfl)
   simp only [Bool.false_eq_true, if_false]
   clear hok
   go_wp2_with fail
   refine (bmust_no sReply _).mono ?_
   rintro e w8 ⟨he, rfl⟩
   unfold Fails at he
   subst he
   go_wp2_with fail
   refine rface_door _ (w.heap.size + 1) (w.heap.size + 1 + 1) sReply (by decide) (by omega) _ _ _ _ M1.out M2.out _ ?_ _ _ _ _ _ _ _ _ _ _ _ _ _ _ _ _ _ _ _ _ _ _ _ _ _ _ _ _ _ _
   intro W1 ho
   rw [RR.out]
   exact ReplyE.no (ext4 (ho.to_ext M5.out (by omega)) (by omega) _ _ _ _)
  | true =>
   have RR : Hid (r = (sNone, x)) := Lib.hid (by rw [RY.out, hok]; rfl)
   simp only [if_true]
   clear hok
   go_wp2_with fail
   refine (bmust_yes _ _).mono ?_
   rintro e w8 ⟨rfl, rfl⟩
   obtain ⟨z0, z1, z2, z3, y0, y1, y2, y3⟩ := four M1.out
   have z4 := M2.out.cell 0
   have y4 := M2.out.frozen 0
   have l1 := M1.out.lt
   have l2 := M2.out.lt
   simp only [List.getElem?_toArray, List.getElem?_cons_zero, List.getElem?_cons_succ] at z4
   go_wp2_with fail
   refine rface_done _ (w.heap.size + 1) (w.heap.size + 1 + 1) x.k x.n x.s qx x.l.length cx ((put4 M1.out _ _ _ _).far (p := ⟨w.heap.size + 1 + 1, 0, none⟩) (by show ¬ w.heap.size + 1 = w.heap.size + 1 + 1; omega) _) ?_ _ ?_ _ _ _ _ _ _ _ _ _ _ _ _ _ _ _ _ _ _ _ _ _ _ _ _ _ _ _ _ _ _
   ·have := far4 (k := w.heap.size + 1) M2.out (by omega) (.int .i64 x.k) (.int .i64 x.n) (.string x.s) (.slice qx x.l.length cx)
    have t2 := this.set_ 0 (.string ⟨#[]⟩)
    simp only [List.setIfInBounds_toArray, List.set_cons_zero] at t2
    exact t2
   ·rw [RR.out]
    refine ⟨_, rfl, ⟨_, rfl, ?_⟩, (ext4 (k := w.heap.size + 1) M5.out (by omega) _ _ _ _).setCell (p := ⟨w.heap.size + 1 + 1, 0, none⟩) (by show w.heap.size ≤ w.heap.size + 1 + 1; omega) _⟩
    refine MX.out.keep (fun b o u (hb : wb < b) hc => ?_) (fun b _ (hb : wb < b) => by omega)
    rw [cell_far (by omega)]
    exact (World.cell?_of_block (heap4 (k := w.heap.size + 1) (b := b) w7 (by omega) _ _ _ _)).trans hc
end Go.Proofs.YtlfihdcgbhdajaaGreatDoor
