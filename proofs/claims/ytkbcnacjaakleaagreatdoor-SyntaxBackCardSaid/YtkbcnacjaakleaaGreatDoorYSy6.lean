/- operator: an operator of a level. -/
import Derived.Test.YtkbcnacjaakleaaGreatDoorYSy4
import Derived.Test.YtkbcnacjaakleaaGreatDoorYP09
set_option maxRecDepth 100000
set_option maxHeartbeats 32000000
set_option linter.unusedVariables false
set_option linter.unusedSimpArgs false
namespace Go.Proofs.YtkbcnacjaakleaaGreatDoor
open Go.RowKit

theorem operW_none {z : Wz} {p lv : Nat} (h : ¬ p < z.ws.length) : operW z p lv = none := by unfold operW; rw [List.getElem?_eq_none (by omega)]
theorem operW_get {z : Wz} {p lv : Nat} (h : p < z.ws.length) : operW z p lv = if (z.ws[p].k == 4 || z.ws[p].k == 1) && (bondL.getD lv []).contains z.ws[p].t then some z.ws[p].t else none := by unfold operW; rw [List.getElem?_eq_getElem h]
theorem bondB_any (lv : Nat) (t : List UInt8) : (bondB lv).any (fun x => x.data == (⟨t.toArray⟩ : ByteArray).data) = (bondL.getD lv []).contains t := by
 unfold bondB
 rw [List.any_map, List.contains_eq_any_beq]
 congr 1
 funext x
 show (x.toArray == t.toArray) = _
 rw [Bool.eq_iff_iff, beq_iff_eq, beq_iff_eq]
 exact ⟨fun e => by have := congrArg Array.toList e; simpa using this.symm, fun e => by rw [e]⟩
def OperE (w : World) (r : Nat) (q : Option Addr) (c : Nat) (z : Wz) (s : Ps) (o : Option (List UInt8)) (e : Ending) (w' : World) : Prop :=
 match o with
 | none => e = .returned (.tuple #[.string ⟨#[]⟩, .bool false]) ∧ Ext w w'
 | some op => e = .returned (.tuple #[strV op, .bool true]) ∧ RdAt w' r q c z ⟨s.p + 1, s.o⟩ ∧ Only r w w'
theorem OperE.mk0 {w w' : World} {r : Nat} {q : Option Addr} {c : Nat} {z : Wz} {s : Ps} {o : Option (List UInt8)} (h : o = none) (he : Ext w w') : OperE w r q c z s o (.returned (.tuple #[.string ⟨#[]⟩, .bool false])) w' := by subst h; exact ⟨rfl, he⟩
theorem OperE.mk1 {w w' : World} {r : Nat} {q : Option Addr} {c : Nat} {z : Wz} {s : Ps} {o : Option (List UInt8)} {op : List UInt8} (h : o = some op) (h1 : RdAt w' r q c z ⟨s.p + 1, s.o⟩) (h2 : Only r w w') : OperE w r q c z s o (.returned (.tuple #[strV op, .bool true])) w' := by subst h; exact ⟨rfl, h1, h2⟩
theorem operator_any (w : World) (r : Nat) (q : Option Addr) (c : Nat) (z : Wz) (s : Ps) (lv : Nat) (h : RdAt w r q c z s) (hlv : lv < 6) :
  Calls Tryz.prog 233 #[.pointer (some ⟨r, 0, none⟩), .int .i64 lv] w (OperE w r q c z s (operW z s.p lv)) := by
 obtain ⟨p, o⟩ := s
 have H := Lib.hid h
 obtain ⟨d0, d1, _⟩ := h.four
 have hl := h.len
 have hle : p ≤ z.ws.length := h.le
 obtain ⟨ow, how⟩ : ∃ ow, operW z p lv = ow := ⟨_, rfl⟩
 simp only at d1 ⊢
 rw [how]
 have hlvI : (lv : Int) < 6 := by omega
 have hlv0 : (0 : Int) ≤ (lv : Int) := by omega
 by_cases hlt : p < z.ws.length
 rotate_left
 ·have hd : decide ((p : Int) < (z.ws.length : Int)) = false := decide_eq_false (by omega)
  have hd2 : decide (p < z.ws.length) = false := decide_eq_false hlt
  have HO := Lib.hid (show ow = none by rw [← how, operW_none hlt])
  clear h how
  generalize z.ws.length = m at *
  go_enter Tryz.func233, Tryz.ntmps233
  go_wp2_with fail
  go_quiet (fail)
  go_wp2_with fail
  go_ret2
  exact .mk0 HO.out ((Ext.refl w).drewN nq)
 ·have hd : decide ((p : Int) < (z.ws.length : Int)) = true := decide_eq_true (by omega)
  have hd2 : decide (p < z.ws.length) = true := decide_eq_true hlt
  have hpI : (p : Int) < (z.ws.length : Int) := by omega
  have hp0 : (0 : Int) ≤ (p : Int) := by omega
  have hwr : IntKind.i64.wrap ((p : Int) + 1) = (p : Int) + 1 := IntWalk.i64_in _ (by omega)
  have hwr2 : IntKind.i64.wrap ((p : Int) + 1 - 1) = (p : Int) := by rw [IntWalk.i64_in _ (by omega)]; omega
  have hwr3 : IntKind.i64.wrap (p : Int) = (p : Int) := IntWalk.i64_in _ (by omega)
  obtain ⟨b, o2, hq, hbr, x0, x1, _, _⟩ := h.words p hlt
  rw [operW_get hlt] at how
  subst hq
  have HZ0 : ∃ xw, Hid (z.ws[p] = xw) ∧ w.cell? ⟨b, o2 + p * 4, none⟩ = some (.int .i64 xw.k) ∧ w.cell? ⟨b, o2 + p * 4 + 1, none⟩ = some (.string ⟨xw.t.toArray⟩) ∧ (if (xw.k == 4 || xw.k == 1) && (bondL.getD lv []).contains xw.t then some xw.t else none) = ow := ⟨_, Lib.hid rfl, x0, x1, how⟩
  clear h x0 x1 how
  obtain ⟨xw, HZ, x0, x1, how⟩ := HZ0
  have HLT := Lib.hid hlt
  obtain ⟨k, xt, n, a⟩ := xw
  simp only at x0 x1 how
  obtain ⟨m, hm⟩ : ∃ m, z.ws.length = m := ⟨_, rfl⟩
  have HM := Lib.hid hm
  rw [hm] at hd hd2 hl hle hlt hpI d0
  clear hm
  obtain ⟨cb, hcb⟩ : ∃ cb, (bondL.getD lv []).contains xt = cb := ⟨_, rfl⟩
  rw [hcb] at how
  cases h4 : (k == 4) with
  | true =>
   rw [h4] at how
   have HH := Lib.hid how
   clear how
   go_enter Tryz.func233, Tryz.ntmps233
   go_wp2_with fail
   refine wp_region_held_drew (S := fun w' => w'.cell? ⟨r, 0, none⟩ = some (.slice (some ⟨b, o2, none⟩) m c) ∧ w'.cell? ⟨r, 1, none⟩ = some (.int .i64 (p : Int)) ∧ w'.cell? ⟨b, o2 + p * 4, none⟩ = some (.int .i64 k) ∧ w'.cell? ⟨b, o2 + p * 4 + 1, none⟩ = some (strV xt)) (by kernel_rfl) (⟨d0, d1, x0, x1⟩) (fun hHeld => ?_)
   refine tkH (i := 0) (v := ?_) ?_
   try simp only [Act.put, pzz]
   refine tkH (i := 1) (v := ?_) ?_
   try simp only [Act.put, pzz]
   refine tkH (i := 2) (v := ?_) ?_
   try simp only [Act.put, pzz]
   refine tkH (i := 3) (v := ?_) ?_
   try simp only [Act.put, pzz]
   refine tkH (i := 4) (v := ?_) ?_
   try simp only [Act.put, pzz]
   refine tkH (i := 5) (v := ?_) ?_
   try simp only [Act.put, pzz]
   refine tkH (i := 6) (v := ?_) ?_
   try simp only [Act.put, pzz]
   refine tkH (i := 7) (v := ?_) ?_
   try simp only [Act.put, pzz]
   refine tkH (i := 8) (v := ?_) ?_
   try simp only [Act.put, pzz]
   refine tkH (i := 9) (v := ?_) ?_
   try simp only [Act.put, pzz]
   refine tkH (i := 10) (v := ?_) ?_
   try simp only [Act.put, pzz]
   refine tkH (i := 11) (v := ?_) ?_
   try simp only [Act.put, pzz]
   refine tkH (i := 12) (v := ?_) ?_
   try simp only [Act.put, pzz]
   refine tkH (i := 13) (v := ?_) ?_
   try simp only [Act.put, pzz]
   refine tkH (i := 14) (v := ?_) ?_
   try simp only [Act.put, pzz]
   refine tkH (i := 15) (v := ?_) ?_
   try simp only [Act.put, pzz]
   refine tkH (i := 16) (v := ?_) ?_
   try simp only [Act.put, pzz]
   refine tkH (i := 17) (v := ?_) ?_
   try simp only [Act.put, pzz]
   refine tkH (i := 18) (v := ?_) ?_
   try simp only [Act.put, pzz]
   refine tkH (i := 19) (v := ?_) ?_
   try simp only [Act.put, pzz]
   refine tkH (i := 20) (v := ?_) ?_
   try simp only [Act.put, pzz]
   refine tkH (i := 21) (v := ?_) ?_
   try simp only [Act.put, pzz]
   refine tkH (i := 22) (v := ?_) ?_
   try simp only [Act.put, pzz]
   refine tkH (i := 23) (v := ?_) ?_
   try simp only [Act.put, pzz]
   refine tkO (i := 24) ?_
   try simp only [Act.put, pzz]
   refine tkO (i := 25) ?_
   try simp only [Act.put, pzz]
   refine tkO (i := 26) ?_
   try simp only [Act.put, pzz]
   refine tkO (i := 27) ?_
   try simp only [Act.put, pzz]
   refine tkO (i := 28) ?_
   try simp only [Act.put, pzz]
   refine tkO (i := 29) ?_
   try simp only [Act.put, pzz]
   refine tkO (i := 30) ?_
   try simp only [Act.put, pzz]
   refine tkO (i := 31) ?_
   try simp only [Act.put, pzz]
   refine tkO (i := 32) ?_
   try simp only [Act.put, pzz]
   refine tkO (i := 33) ?_
   try simp only [Act.put, pzz]
   refine tkO (i := 34) ?_
   try simp only [Act.put, pzz]
   refine tkO (i := 35) ?_
   try simp only [Act.put, pzz]
   refine tkH (i := 36) (v := ?_) ?_
   try simp only [Act.put, pzz]
   refine tkH (i := 37) (v := ?_) ?_
   try simp only [Act.put, pzz]
   refine tkH (i := 38) (v := ?_) ?_
   try simp only [Act.put, pzz]
   refine tkH (i := 40) (v := ?_) ?_
   try simp only [Act.put, pzz]
   refine tkH (i := 43) (v := ?_) ?_
   try simp only [Act.put, pzz]
   refine tkH (i := 44) (v := ?_) ?_
   try simp only [Act.put, pzz]
   refine tkH (i := 45) (v := ?_) ?_
   try simp only [Act.put, pzz]
   refine tkH (i := 46) (v := ?_) ?_
   try simp only [Act.put, pzz]
   refine tkH (i := 47) (v := ?_) ?_
   try simp only [Act.put, pzz]
   refine tkH (i := 48) (v := ?_) ?_
   try simp only [Act.put, pzz]
   refine tkH (i := 49) (v := ?_) ?_
   try simp only [Act.put, pzz]
   refine tkH (i := 50) (v := ?_) ?_
   try simp only [Act.put, pzz]
   refine tkH (i := 51) (v := ?_) ?_
   try simp only [Act.put, pzz]
   refine tkH (i := 52) (v := ?_) ?_
   try simp only [Act.put, pzz]
   refine tkH (i := 53) (v := ?_) ?_
   try simp only [Act.put, pzz]
   refine wpAnyH_ready (rs := [39]) (by kernel_rfl) (by simp) ?_
   refine AllReadyH.cons rfl (fun K hK => ?_) AllReadyH.nil
   go_simp
   refine (bonds_any _).mono ?_
   rintro e W2 ⟨bb, rfl, hbb, eW, hbm⟩
   obtain ⟨M, hM, hset⟩ := hbm lv hlv
   have lk := hset.look ⟨xt.toArray⟩
   rw [bondB_any, hcb] at lk
   have EW := Lib.hid ((Ext.refl w).drew.trans eW)
   have y0 := eW.cell (show w.drew.cell? _ = _ from d0)
   have y1 := eW.cell (show w.drew.cell? _ = _ from d1)
   have y2 := eW.cell (show w.drew.cell? _ = _ from x0)
   have y3 := eW.cell (show w.drew.cell? _ = _ from x1)
   clear hbm hset eW
   clear hHeld
   refine hK.out _ _ (⟨y0, y1, y2, y3⟩) (fun hHeld => ?_)
   clear hK K
   try simp only [Act.put, pzz]
   refine tkH (i := 41) (v := ?_) ?_
   try simp only [Act.put, pzz]
   refine wpAnyH_ready (rs := [42]) (by kernel_rfl) (by simp) ?_
   refine AllReadyH.cons rfl (fun K hK => ?_) AllReadyH.nil
   go_simp
   clear hHeld
   refine hK.out _ _ (⟨y0, y1, y2, y3⟩) (fun hHeld => ?_)
   clear hK K
   try simp only [Act.put, pzz]
   refine wpAnyH_ready (rs := [54]) (by kernel_rfl) (by simp) ?_
   refine AllReadyH.cons rfl (fun K hK => ?_) AllReadyH.nil
   go_simp
   clear hHeld
   refine hK.out _ _ (⟨y0, y1, y2, y3⟩) (fun hHeld => ?_)
   clear hK K
   try simp only [Act.put, pzz]
   refine tkH (i := 55) (v := ?_) ?_
   try simp only [Act.put, pzz]
   refine wpAnyH_done (by kernel_rfl) ?_ _
   cases cb with
   | true =>
    have HO := Lib.hid (show ow = some xt by rw [← HH.out]; rfl)
    have HW := Lib.hid (H.out.ext EW.out)
    have R2 := Lib.hid (HW.out.step (p + 1) HLT.out)
    have ho := Lib.hid (Only.set (Only.refl r W2) 1 (.int .i64 ((p + 1 : Nat) : Int)))
    obtain ⟨_, q1, _, _, qf⟩ := HW.out.four
    have hlr := HW.out.lt
    simp only at q1
    have hcast : ((p + 1 : Nat) : Int) = (p : Int) + 1 := by omega
    obtain ⟨b', o', hqq, hbr', g0, g1, g2, g3⟩ := R2.out.words p HLT.out
    obtain ⟨rfl, rfl⟩ : b' = b ∧ o' = o2 := by cases hqq; exact ⟨rfl, rfl⟩
    obtain ⟨z0, z1, _⟩ := R2.out.four
    rw [HZ.out] at g1
    rw [HM.out] at z0
    simp only at g1 z1
    rw [hcast] at R2 ho g1 z0 z1
    clear hqq g0 g2 g3 y0 y1 y2 y3 lk hM
    go_upto_region 3 with (fail)
    generalize W2.setCell ⟨r, 1, none⟩ (.int .i64 ((p : Int) + 1)) = W3 at *
    clear q1 qf
    go_quiet (fail)
    go_wp2_with fail
    go_ret2
    exact .mk1 HO.out (R2.out.ext ((Ext.refl W3).drewN nq)) (((Only.of_ext EW.out).trans ho.out).ext ((Ext.refl W3).drewN nq))
   | false =>
    have HO := Lib.hid (show ow = none by rw [← HH.out]; rfl)
    clear y0 y1 y2 y3 lk hM
    go_wp2_with fail
    go_ret2
    exact .mk0 HO.out EW.out
  | false =>
   cases h1 : (k == 1) with
   | true =>
    rw [h4, h1] at how
    have HH := Lib.hid how
    clear how
    go_enter Tryz.func233, Tryz.ntmps233
    go_wp2_with fail
    refine wp_region_held_drew (S := fun w' => w'.cell? ⟨r, 0, none⟩ = some (.slice (some ⟨b, o2, none⟩) m c) ∧ w'.cell? ⟨r, 1, none⟩ = some (.int .i64 (p : Int)) ∧ w'.cell? ⟨b, o2 + p * 4, none⟩ = some (.int .i64 k) ∧ w'.cell? ⟨b, o2 + p * 4 + 1, none⟩ = some (strV xt)) (by kernel_rfl) (⟨d0, d1, x0, x1⟩) (fun hHeld => ?_)
    refine tkH (i := 0) (v := ?_) ?_
    try simp only [Act.put, pzz]
    refine tkH (i := 1) (v := ?_) ?_
    try simp only [Act.put, pzz]
    refine tkH (i := 2) (v := ?_) ?_
    try simp only [Act.put, pzz]
    refine tkH (i := 3) (v := ?_) ?_
    try simp only [Act.put, pzz]
    refine tkH (i := 4) (v := ?_) ?_
    try simp only [Act.put, pzz]
    refine tkH (i := 5) (v := ?_) ?_
    try simp only [Act.put, pzz]
    refine tkH (i := 6) (v := ?_) ?_
    try simp only [Act.put, pzz]
    refine tkH (i := 7) (v := ?_) ?_
    try simp only [Act.put, pzz]
    refine tkH (i := 8) (v := ?_) ?_
    try simp only [Act.put, pzz]
    refine tkH (i := 9) (v := ?_) ?_
    try simp only [Act.put, pzz]
    refine tkH (i := 10) (v := ?_) ?_
    try simp only [Act.put, pzz]
    refine tkH (i := 11) (v := ?_) ?_
    try simp only [Act.put, pzz]
    refine tkH (i := 12) (v := ?_) ?_
    try simp only [Act.put, pzz]
    refine tkH (i := 13) (v := ?_) ?_
    try simp only [Act.put, pzz]
    refine tkH (i := 14) (v := ?_) ?_
    try simp only [Act.put, pzz]
    refine tkH (i := 15) (v := ?_) ?_
    try simp only [Act.put, pzz]
    refine tkH (i := 16) (v := ?_) ?_
    try simp only [Act.put, pzz]
    refine tkH (i := 17) (v := ?_) ?_
    try simp only [Act.put, pzz]
    refine tkH (i := 18) (v := ?_) ?_
    try simp only [Act.put, pzz]
    refine tkH (i := 19) (v := ?_) ?_
    try simp only [Act.put, pzz]
    refine tkH (i := 20) (v := ?_) ?_
    try simp only [Act.put, pzz]
    refine tkH (i := 21) (v := ?_) ?_
    try simp only [Act.put, pzz]
    refine tkH (i := 22) (v := ?_) ?_
    try simp only [Act.put, pzz]
    refine tkH (i := 23) (v := ?_) ?_
    try simp only [Act.put, pzz]
    refine tkH (i := 24) (v := ?_) ?_
    try simp only [Act.put, pzz]
    refine tkH (i := 25) (v := ?_) ?_
    try simp only [Act.put, pzz]
    refine tkH (i := 26) (v := ?_) ?_
    try simp only [Act.put, pzz]
    refine tkH (i := 27) (v := ?_) ?_
    try simp only [Act.put, pzz]
    refine tkH (i := 28) (v := ?_) ?_
    try simp only [Act.put, pzz]
    refine tkH (i := 29) (v := ?_) ?_
    try simp only [Act.put, pzz]
    refine tkH (i := 30) (v := ?_) ?_
    try simp only [Act.put, pzz]
    refine tkH (i := 31) (v := ?_) ?_
    try simp only [Act.put, pzz]
    refine tkH (i := 32) (v := ?_) ?_
    try simp only [Act.put, pzz]
    refine tkH (i := 33) (v := ?_) ?_
    try simp only [Act.put, pzz]
    refine tkH (i := 34) (v := ?_) ?_
    try simp only [Act.put, pzz]
    refine tkH (i := 35) (v := ?_) ?_
    try simp only [Act.put, pzz]
    refine tkH (i := 36) (v := ?_) ?_
    try simp only [Act.put, pzz]
    refine tkH (i := 37) (v := ?_) ?_
    try simp only [Act.put, pzz]
    refine tkH (i := 38) (v := ?_) ?_
    try simp only [Act.put, pzz]
    refine tkH (i := 40) (v := ?_) ?_
    try simp only [Act.put, pzz]
    refine tkH (i := 43) (v := ?_) ?_
    try simp only [Act.put, pzz]
    refine tkH (i := 44) (v := ?_) ?_
    try simp only [Act.put, pzz]
    refine tkH (i := 45) (v := ?_) ?_
    try simp only [Act.put, pzz]
    refine tkH (i := 46) (v := ?_) ?_
    try simp only [Act.put, pzz]
    refine tkH (i := 47) (v := ?_) ?_
    try simp only [Act.put, pzz]
    refine tkH (i := 48) (v := ?_) ?_
    try simp only [Act.put, pzz]
    refine tkH (i := 49) (v := ?_) ?_
    try simp only [Act.put, pzz]
    refine tkH (i := 50) (v := ?_) ?_
    try simp only [Act.put, pzz]
    refine tkH (i := 51) (v := ?_) ?_
    try simp only [Act.put, pzz]
    refine tkH (i := 52) (v := ?_) ?_
    try simp only [Act.put, pzz]
    refine tkH (i := 53) (v := ?_) ?_
    try simp only [Act.put, pzz]
    refine wpAnyH_ready (rs := [39]) (by kernel_rfl) (by simp) ?_
    refine AllReadyH.cons rfl (fun K hK => ?_) AllReadyH.nil
    go_simp
    refine (bonds_any _).mono ?_
    rintro e W2 ⟨bb, rfl, hbb, eW, hbm⟩
    obtain ⟨M, hM, hset⟩ := hbm lv hlv
    have lk := hset.look ⟨xt.toArray⟩
    rw [bondB_any, hcb] at lk
    have EW := Lib.hid ((Ext.refl w).drew.trans eW)
    have y0 := eW.cell (show w.drew.cell? _ = _ from d0)
    have y1 := eW.cell (show w.drew.cell? _ = _ from d1)
    have y2 := eW.cell (show w.drew.cell? _ = _ from x0)
    have y3 := eW.cell (show w.drew.cell? _ = _ from x1)
    clear hbm hset eW
    clear hHeld
    refine hK.out _ _ (⟨y0, y1, y2, y3⟩) (fun hHeld => ?_)
    clear hK K
    try simp only [Act.put, pzz]
    refine tkH (i := 41) (v := ?_) ?_
    try simp only [Act.put, pzz]
    refine wpAnyH_ready (rs := [42]) (by kernel_rfl) (by simp) ?_
    refine AllReadyH.cons rfl (fun K hK => ?_) AllReadyH.nil
    go_simp
    clear hHeld
    refine hK.out _ _ (⟨y0, y1, y2, y3⟩) (fun hHeld => ?_)
    clear hK K
    try simp only [Act.put, pzz]
    refine wpAnyH_ready (rs := [54]) (by kernel_rfl) (by simp) ?_
    refine AllReadyH.cons rfl (fun K hK => ?_) AllReadyH.nil
    go_simp
    clear hHeld
    refine hK.out _ _ (⟨y0, y1, y2, y3⟩) (fun hHeld => ?_)
    clear hK K
    try simp only [Act.put, pzz]
    refine tkH (i := 55) (v := ?_) ?_
    try simp only [Act.put, pzz]
    refine wpAnyH_done (by kernel_rfl) ?_ _
    cases cb with
    | true =>
     have HO := Lib.hid (show ow = some xt by rw [← HH.out]; rfl)
     have HW := Lib.hid (H.out.ext EW.out)
     have R2 := Lib.hid (HW.out.step (p + 1) HLT.out)
     have ho := Lib.hid (Only.set (Only.refl r W2) 1 (.int .i64 ((p + 1 : Nat) : Int)))
     obtain ⟨_, q1, _, _, qf⟩ := HW.out.four
     have hlr := HW.out.lt
     simp only at q1
     have hcast : ((p + 1 : Nat) : Int) = (p : Int) + 1 := by omega
     obtain ⟨b', o', hqq, hbr', g0, g1, g2, g3⟩ := R2.out.words p HLT.out
     obtain ⟨rfl, rfl⟩ : b' = b ∧ o' = o2 := by cases hqq; exact ⟨rfl, rfl⟩
     obtain ⟨z0, z1, _⟩ := R2.out.four
     rw [HZ.out] at g1
     rw [HM.out] at z0
     simp only at g1 z1
     rw [hcast] at R2 ho g1 z0 z1
     clear hqq g0 g2 g3 y0 y1 y2 y3 lk hM
     go_upto_region 3 with (fail)
     generalize W2.setCell ⟨r, 1, none⟩ (.int .i64 ((p : Int) + 1)) = W3 at *
     clear q1 qf
     go_quiet (fail)
     go_wp2_with fail
     go_ret2
     exact .mk1 HO.out (R2.out.ext ((Ext.refl W3).drewN nq)) (((Only.of_ext EW.out).trans ho.out).ext ((Ext.refl W3).drewN nq))
    | false =>
     have HO := Lib.hid (show ow = none by rw [← HH.out]; rfl)
     clear y0 y1 y2 y3 lk hM
     go_wp2_with fail
     go_ret2
     exact .mk0 HO.out EW.out
   | false =>
    have HO := Lib.hid (show ow = none by rw [← how, h4, h1]; rfl)
    clear how hcb
    go_enter Tryz.func233, Tryz.ntmps233
    go_wp2_with fail
    go_quiet (fail)
    go_wp2_with fail
    go_ret2
    exact .mk0 HO.out ((Ext.refl w).drewN nq)
end Go.Proofs.YtkbcnacjaakleaaGreatDoor
