/- tabor.tree: block. -/
import Derived.Test.YtkbcnacjaakleaaGreatDoorYScN
set_option maxRecDepth 100000
set_option maxHeartbeats 32000000
set_option linter.unusedVariables false
set_option linter.unusedSimpArgs false
namespace Go.Proofs.YtkbcnacjaakleaaGreatDoor
open Go.RowKit

theorem lookst {lo : Nat} {w : World} {M : Nat} (h : ShAt lo w M) (k : Int) : ∃ sv, (Instr.lookup 130 (.map (some M)) (.int .i64 k) false).run Tryz.prog w = .ok sv w ∧ ∀ W : World, (Instr.field 128 sv 6).run Tryz.prog W = .ok (.bool (stmtK k)) W := by
 cases hs : shapeP k with
 | some s =>
  obtain ⟨sv, h1, F, lb, bs, h2, _⟩ := h.look k s hs false
  subst h2
  exact ⟨_, h1 w (Ext.refl w), fun _ => rfl⟩
 | none =>
  have hk : ¬ (1 ≤ k ∧ k ≤ 24) := fun hk => by
   rcases kinds_all (by omega) hk.2 with rfl|rfl|rfl|rfl|rfl|rfl|rfl|rfl|rfl|rfl|rfl|rfl|rfl|rfl|rfl|rfl|rfl|rfl|rfl|rfl|rfl|rfl|rfl|rfl|rfl <;> first | omega | (simp [shapeP] at hs)
  have hst : stmtK k = false := by
   unfold stmtK
   have h17 : (k == 17) = false := beq_eq_false_iff_ne.2 (by omega)
   rw [h17]
   by_cases h1 : 1 ≤ k
   ·rw [decide_eq_false (show ¬ k ≤ 9 by omega), Bool.and_false]; rfl
   ·rw [decide_eq_false h1]; rfl
  rw [hst]
  exact ⟨_, h.nolook k hk false, fun _ => rfl⟩
theorem pblock_any (w : World) (ok : Nat → Prop) (d : Nat) (v : Value) (l : List Nd) (h : KidsAt ok w d v l) (hl : l.length ≤ 140737488355328) :
  Calls Tryz.prog 69 #[v] w fun e w' => e = .returned (.bool (blockFrom l)) ∧ Ext w w' := by
 obtain ⟨q, c, rfl⟩ := h.slice
 have HK := Lib.hid h
 obtain ⟨n, hn⟩ : ∃ n, l.length = n := ⟨_, rfl⟩
 have HN := Lib.hid hn
 rw [hn] at hl ⊢
 obtain ⟨r, hr⟩ : ∃ r, blockFrom l = r := ⟨_, rfl⟩
 rw [hr]
 have HR := Lib.hid hr
 have hw1 : IntKind.i64.wrap ((n : Int) - 1) = (n : Int) - 1 := IntWalk.i64_in _ (by omega)
 clear h hn hr
 go_enter Tryz.func69, Tryz.ntmps69
 go_wp2_with fail
 go_loopw [7] (fun v wr => ∃ j : Nat, v = .int .i64 j ∧ j ≤ n ∧ Hid (Ext w wr) ∧ Hid (blockFrom (l.drop j) = r)) (fun v _ => n - (intOf v).toNat)
 case atStart => exact ⟨0, rfl, Nat.zero_le _, Lib.hid (Ext.refl w), HR⟩
 case round =>
  obtain ⟨j, rfl, hj, HE, HA⟩ := hrel
  by_cases hlt : j < n
  ·have kl : j < l.length := by rw [HN.out]; exact hlt
   obtain ⟨b, o, qn, cn, ql, cl, rfl, c0, c1, c2, c3, c4, c5, hnd⟩ := ((by have := HK.out; exact this : KidsAt ok w d (.slice q l.length c) l).ext HE.out).node kl
   have hA := HA.out
   rw [blockFrom_drop l j kl, HN.out] at hA
   obtain ⟨x, hx⟩ : ∃ x, l[j] = x := ⟨_, rfl⟩
   rw [hx] at c0 c1 c2 c3 c4 c5 hA
   generalize x.names.length = xn at *
   generalize x.kids.length = xk at *
   have HA2 := Lib.hid hA
   have i0 : (0 : Int) ≤ (j : Int) := by omega
   have i1 : (j : Int) < (n : Int) := by omega
   have i2 : decide ((j : Int) < (n : Int)) = true := decide_eq_true i1
   clear hnd hx kl hA
   have HX := Lib.hid (HE.out.alloc (ndO x (.slice qn xn cn) (.slice ql xk cl)))
   have BX := Lib.hid (fun W => nd_box (w := wr) (W := W) (x := x) (nv := .slice qn xn cn) (lv := .slice ql xk cl))
   obtain ⟨b0, _⟩ := BX.out _ (Ext.refl _)
   go_upto_region 4 with (fail)
   clear c0 c1 c2 c3 c4 c5
   generalize wr.alloc (ndO x (.slice qn xn cn) (.slice ql xk cl)) = W0 at *
   cases hst : stmtK x.k with
   | false =>
    have hrr : r = false := by rw [← HA2.out, hst]; rfl
    subst hrr
    refine wp_region_held_drew (S := fun w' => w'.cell? ⟨wr.heap.size, 0, none⟩ = some (.int .i64 x.k)) (by kernel_rfl) (b0) (fun hHeld => ?_)
    refine tkH (i := 1) (v := ?_) ?_
    try simp only [Act.put, pzz]
    refine tkH (i := 2) (v := ?_) ?_
    try simp only [Act.put, pzz]
    refine wpAnyH_ready (rs := [0]) (by kernel_rfl) (by simp) ?_
    refine AllReadyH.cons rfl (fun K hK => ?_) AllReadyH.nil
    go_simp
    refine (shapes_any _).mono ?_
    rintro e W2 ⟨M, rfl, hM, eW, hsh⟩
    obtain ⟨sv, lk, hfl⟩ := lookst hsh x.k
    rw [hst] at hfl
    have EW := Lib.hid eW
    clear hsh hM
    have hS2 := eW.cell hHeld
    clear hHeld
    refine hK.out _ _ (hS2) (fun hHeld => ?_)
    clear hK K
    try simp only [Act.put, pzz]
    refine wpAnyH_ready (rs := [3]) (by kernel_rfl) (by simp) ?_
    refine AllReadyH.cons rfl (fun K hK => ?_) AllReadyH.nil
    go_simp
    clear hHeld
    refine hK.out _ _ (hS2) (fun hHeld => ?_)
    clear hK K
    try simp only [Act.put, pzz]
    refine tkH (i := 4) (v := ?_) ?_
    try simp only [Act.put, pzz]
    refine tkH (i := 5) (v := ?_) ?_
    try simp only [Act.put, pzz]
    refine tkH (i := 6) (v := ?_) ?_
    try simp only [Act.put, pzz]
    refine tkO (i := 7) ?_
    try simp only [Act.put, pzz]
    refine tkO (i := 8) ?_
    try simp only [Act.put, pzz]
    refine tkO (i := 9) ?_
    try simp only [Act.put, pzz]
    refine tkO (i := 10) ?_
    try simp only [Act.put, pzz]
    refine tkO (i := 11) ?_
    try simp only [Act.put, pzz]
    refine tkO (i := 12) ?_
    try simp only [Act.put, pzz]
    refine tkO (i := 13) ?_
    try simp only [Act.put, pzz]
    refine tkO (i := 14) ?_
    try simp only [Act.put, pzz]
    refine tkO (i := 15) ?_
    try simp only [Act.put, pzz]
    refine tkO (i := 16) ?_
    try simp only [Act.put, pzz]
    refine tkO (i := 17) ?_
    try simp only [Act.put, pzz]
    refine tkO (i := 18) ?_
    try simp only [Act.put, pzz]
    refine tkO (i := 19) ?_
    try simp only [Act.put, pzz]
    refine tkO (i := 20) ?_
    try simp only [Act.put, pzz]
    refine tkO (i := 21) ?_
    try simp only [Act.put, pzz]
    refine tkH (i := 22) (v := ?_) ?_
    try simp only [Act.put, pzz]
    refine wpAnyH_done (by kernel_rfl) ?_ _
    have HX2 := Lib.hid (HX.out.drew.trans EW.out)
    clear b0 lk hS2 hfl EW
    go_wp2_with fail
    go_ret
    exact ⟨rfl, HX2.out⟩
   | true =>
    have HA3 : Hid (((decide (j + 1 = n) || !(x.k == 7 || x.k == 8)) && blockFrom (l.drop (j + 1))) = r) := Lib.hid (by rw [← HA2.out, hst]; rfl)
    by_cases hjn : j + 1 = n
    ·have i3 : decide ((j : Int) < (n : Int) - 1) = false := decide_eq_false (by omega)
     have HN2 : Hid (blockFrom (l.drop (j + 1)) = r) := Lib.hid (by rw [← HA3.out, decide_eq_true hjn]; rfl)
     clear hjn
     refine wp_region_held_drew (S := fun w' => w'.cell? ⟨wr.heap.size, 0, none⟩ = some (.int .i64 x.k)) (by kernel_rfl) (b0) (fun hHeld => ?_)
     refine tkH (i := 1) (v := ?_) ?_
     try simp only [Act.put, pzz]
     refine tkH (i := 2) (v := ?_) ?_
     try simp only [Act.put, pzz]
     refine wpAnyH_ready (rs := [0]) (by kernel_rfl) (by simp) ?_
     refine AllReadyH.cons rfl (fun K hK => ?_) AllReadyH.nil
     go_simp
     refine (shapes_any _).mono ?_
     rintro e W2 ⟨M, rfl, hM, eW, hsh⟩
     obtain ⟨sv, lk, hfl⟩ := lookst hsh x.k
     rw [hst] at hfl
     have EW := Lib.hid eW
     clear hsh hM
     have hS2 := eW.cell hHeld
     clear hHeld
     refine hK.out _ _ (hS2) (fun hHeld => ?_)
     clear hK K
     try simp only [Act.put, pzz]
     refine wpAnyH_ready (rs := [3]) (by kernel_rfl) (by simp) ?_
     refine AllReadyH.cons rfl (fun K hK => ?_) AllReadyH.nil
     go_simp
     clear hHeld
     refine hK.out _ _ (hS2) (fun hHeld => ?_)
     clear hK K
     try simp only [Act.put, pzz]
     refine tkH (i := 4) (v := ?_) ?_
     try simp only [Act.put, pzz]
     refine tkH (i := 5) (v := ?_) ?_
     try simp only [Act.put, pzz]
     refine tkH (i := 6) (v := ?_) ?_
     try simp only [Act.put, pzz]
     refine tkH (i := 7) (v := ?_) ?_
     try simp only [Act.put, pzz]
     refine tkH (i := 8) (v := ?_) ?_
     try simp only [Act.put, pzz]
     refine tkH (i := 9) (v := ?_) ?_
     try simp only [Act.put, pzz]
     refine tkH (i := 10) (v := ?_) ?_
     try simp only [Act.put, pzz]
     refine tkH (i := 11) (v := ?_) ?_
     try simp only [Act.put, pzz]
     refine tkH (i := 12) (v := ?_) ?_
     try simp only [Act.put, pzz]
     refine tkO (i := 13) ?_
     try simp only [Act.put, pzz]
     refine tkO (i := 14) ?_
     try simp only [Act.put, pzz]
     refine tkO (i := 15) ?_
     try simp only [Act.put, pzz]
     refine tkO (i := 16) ?_
     try simp only [Act.put, pzz]
     refine tkO (i := 17) ?_
     try simp only [Act.put, pzz]
     refine tkO (i := 18) ?_
     try simp only [Act.put, pzz]
     refine tkO (i := 19) ?_
     try simp only [Act.put, pzz]
     refine tkO (i := 20) ?_
     try simp only [Act.put, pzz]
     refine tkH (i := 21) (v := ?_) ?_
     try simp only [Act.put, pzz]
     refine tkH (i := 22) (v := ?_) ?_
     try simp only [Act.put, pzz]
     refine wpAnyH_done (by kernel_rfl) ?_ _
     have HX2 := Lib.hid (HX.out.drew.trans EW.out)
     clear b0 lk hS2 hfl EW
     go_wp2_with fail
     go_roundw
     case rel => exact ⟨j + 1, by go_num, by omega, HX2, HN2⟩
     case measure => simp [intOf]; omega
    ·have i3 : decide ((j : Int) < (n : Int) - 1) = true := decide_eq_true (by omega)
     have HA4 : Hid ((!(x.k == 7 || x.k == 8) && blockFrom (l.drop (j + 1))) = r) := Lib.hid (by rw [← HA3.out, decide_eq_false hjn]; rfl)
     clear hjn
     cases h7 : (x.k == 7) with
     | true =>
      have hrr : r = false := by rw [← HA4.out, h7]; rfl
      subst hrr
      refine wp_region_held_drew (S := fun w' => w'.cell? ⟨wr.heap.size, 0, none⟩ = some (.int .i64 x.k)) (by kernel_rfl) (b0) (fun hHeld => ?_)
      refine tkH (i := 1) (v := ?_) ?_
      try simp only [Act.put, pzz]
      refine tkH (i := 2) (v := ?_) ?_
      try simp only [Act.put, pzz]
      refine wpAnyH_ready (rs := [0]) (by kernel_rfl) (by simp) ?_
      refine AllReadyH.cons rfl (fun K hK => ?_) AllReadyH.nil
      go_simp
      refine (shapes_any _).mono ?_
      rintro e W2 ⟨M, rfl, hM, eW, hsh⟩
      obtain ⟨sv, lk, hfl⟩ := lookst hsh x.k
      rw [hst] at hfl
      have EW := Lib.hid eW
      clear hsh hM
      have hS2 := eW.cell hHeld
      clear hHeld
      refine hK.out _ _ (hS2) (fun hHeld => ?_)
      clear hK K
      try simp only [Act.put, pzz]
      refine wpAnyH_ready (rs := [3]) (by kernel_rfl) (by simp) ?_
      refine AllReadyH.cons rfl (fun K hK => ?_) AllReadyH.nil
      go_simp
      clear hHeld
      refine hK.out _ _ (hS2) (fun hHeld => ?_)
      clear hK K
      try simp only [Act.put, pzz]
      refine tkH (i := 4) (v := ?_) ?_
      try simp only [Act.put, pzz]
      refine tkH (i := 5) (v := ?_) ?_
      try simp only [Act.put, pzz]
      refine tkH (i := 6) (v := ?_) ?_
      try simp only [Act.put, pzz]
      refine tkH (i := 7) (v := ?_) ?_
      try simp only [Act.put, pzz]
      refine tkH (i := 8) (v := ?_) ?_
      try simp only [Act.put, pzz]
      refine tkH (i := 9) (v := ?_) ?_
      try simp only [Act.put, pzz]
      refine tkH (i := 10) (v := ?_) ?_
      try simp only [Act.put, pzz]
      refine tkH (i := 11) (v := ?_) ?_
      try simp only [Act.put, pzz]
      refine tkH (i := 12) (v := ?_) ?_
      try simp only [Act.put, pzz]
      refine tkH (i := 13) (v := ?_) ?_
      try simp only [Act.put, pzz]
      refine tkH (i := 14) (v := ?_) ?_
      try simp only [Act.put, pzz]
      refine tkH (i := 15) (v := ?_) ?_
      try simp only [Act.put, pzz]
      refine tkH (i := 16) (v := ?_) ?_
      try simp only [Act.put, pzz]
      refine tkO (i := 17) ?_
      try simp only [Act.put, pzz]
      refine tkO (i := 18) ?_
      try simp only [Act.put, pzz]
      refine tkO (i := 19) ?_
      try simp only [Act.put, pzz]
      refine tkH (i := 20) (v := ?_) ?_
      try simp only [Act.put, pzz]
      refine tkH (i := 21) (v := ?_) ?_
      try simp only [Act.put, pzz]
      refine tkH (i := 22) (v := ?_) ?_
      try simp only [Act.put, pzz]
      refine wpAnyH_done (by kernel_rfl) ?_ _
      have HX2 := Lib.hid (HX.out.drew.trans EW.out)
      clear b0 lk hS2 hfl EW
      go_wp2_with fail
      go_ret
      exact ⟨rfl, HX2.out⟩
     | false =>
      cases h8 : (x.k == 8) with
      | true =>
       have hrr : r = false := by rw [← HA4.out, h7, h8]; rfl
       subst hrr
       refine wp_region_held_drew (S := fun w' => w'.cell? ⟨wr.heap.size, 0, none⟩ = some (.int .i64 x.k)) (by kernel_rfl) (b0) (fun hHeld => ?_)
       refine tkH (i := 1) (v := ?_) ?_
       try simp only [Act.put, pzz]
       refine tkH (i := 2) (v := ?_) ?_
       try simp only [Act.put, pzz]
       refine wpAnyH_ready (rs := [0]) (by kernel_rfl) (by simp) ?_
       refine AllReadyH.cons rfl (fun K hK => ?_) AllReadyH.nil
       go_simp
       refine (shapes_any _).mono ?_
       rintro e W2 ⟨M, rfl, hM, eW, hsh⟩
       obtain ⟨sv, lk, hfl⟩ := lookst hsh x.k
       rw [hst] at hfl
       have EW := Lib.hid eW
       clear hsh hM
       have hS2 := eW.cell hHeld
       clear hHeld
       refine hK.out _ _ (hS2) (fun hHeld => ?_)
       clear hK K
       try simp only [Act.put, pzz]
       refine wpAnyH_ready (rs := [3]) (by kernel_rfl) (by simp) ?_
       refine AllReadyH.cons rfl (fun K hK => ?_) AllReadyH.nil
       go_simp
       clear hHeld
       refine hK.out _ _ (hS2) (fun hHeld => ?_)
       clear hK K
       try simp only [Act.put, pzz]
       refine tkH (i := 4) (v := ?_) ?_
       try simp only [Act.put, pzz]
       refine tkH (i := 5) (v := ?_) ?_
       try simp only [Act.put, pzz]
       refine tkH (i := 6) (v := ?_) ?_
       try simp only [Act.put, pzz]
       refine tkH (i := 7) (v := ?_) ?_
       try simp only [Act.put, pzz]
       refine tkH (i := 8) (v := ?_) ?_
       try simp only [Act.put, pzz]
       refine tkH (i := 9) (v := ?_) ?_
       try simp only [Act.put, pzz]
       refine tkH (i := 10) (v := ?_) ?_
       try simp only [Act.put, pzz]
       refine tkH (i := 11) (v := ?_) ?_
       try simp only [Act.put, pzz]
       refine tkH (i := 12) (v := ?_) ?_
       try simp only [Act.put, pzz]
       refine tkH (i := 13) (v := ?_) ?_
       try simp only [Act.put, pzz]
       refine tkH (i := 14) (v := ?_) ?_
       try simp only [Act.put, pzz]
       refine tkH (i := 15) (v := ?_) ?_
       try simp only [Act.put, pzz]
       refine tkH (i := 16) (v := ?_) ?_
       try simp only [Act.put, pzz]
       refine tkH (i := 17) (v := ?_) ?_
       try simp only [Act.put, pzz]
       refine tkH (i := 18) (v := ?_) ?_
       try simp only [Act.put, pzz]
       refine tkH (i := 19) (v := ?_) ?_
       try simp only [Act.put, pzz]
       refine tkH (i := 20) (v := ?_) ?_
       try simp only [Act.put, pzz]
       refine tkH (i := 21) (v := ?_) ?_
       try simp only [Act.put, pzz]
       refine tkH (i := 22) (v := ?_) ?_
       try simp only [Act.put, pzz]
       refine wpAnyH_done (by kernel_rfl) ?_ _
       have HX2 := Lib.hid (HX.out.drew.trans EW.out)
       clear b0 lk hS2 hfl EW
       go_wp2_with fail
       go_ret
       exact ⟨rfl, HX2.out⟩
      | false =>
       have HN2 : Hid (blockFrom (l.drop (j + 1)) = r) := Lib.hid (by rw [← HA4.out, h7, h8]; rfl)
       refine wp_region_held_drew (S := fun w' => w'.cell? ⟨wr.heap.size, 0, none⟩ = some (.int .i64 x.k)) (by kernel_rfl) (b0) (fun hHeld => ?_)
       refine tkH (i := 1) (v := ?_) ?_
       try simp only [Act.put, pzz]
       refine tkH (i := 2) (v := ?_) ?_
       try simp only [Act.put, pzz]
       refine wpAnyH_ready (rs := [0]) (by kernel_rfl) (by simp) ?_
       refine AllReadyH.cons rfl (fun K hK => ?_) AllReadyH.nil
       go_simp
       refine (shapes_any _).mono ?_
       rintro e W2 ⟨M, rfl, hM, eW, hsh⟩
       obtain ⟨sv, lk, hfl⟩ := lookst hsh x.k
       rw [hst] at hfl
       have EW := Lib.hid eW
       clear hsh hM
       have hS2 := eW.cell hHeld
       clear hHeld
       refine hK.out _ _ (hS2) (fun hHeld => ?_)
       clear hK K
       try simp only [Act.put, pzz]
       refine wpAnyH_ready (rs := [3]) (by kernel_rfl) (by simp) ?_
       refine AllReadyH.cons rfl (fun K hK => ?_) AllReadyH.nil
       go_simp
       clear hHeld
       refine hK.out _ _ (hS2) (fun hHeld => ?_)
       clear hK K
       try simp only [Act.put, pzz]
       refine tkH (i := 4) (v := ?_) ?_
       try simp only [Act.put, pzz]
       refine tkH (i := 5) (v := ?_) ?_
       try simp only [Act.put, pzz]
       refine tkH (i := 6) (v := ?_) ?_
       try simp only [Act.put, pzz]
       refine tkH (i := 7) (v := ?_) ?_
       try simp only [Act.put, pzz]
       refine tkH (i := 8) (v := ?_) ?_
       try simp only [Act.put, pzz]
       refine tkH (i := 9) (v := ?_) ?_
       try simp only [Act.put, pzz]
       refine tkH (i := 10) (v := ?_) ?_
       try simp only [Act.put, pzz]
       refine tkH (i := 11) (v := ?_) ?_
       try simp only [Act.put, pzz]
       refine tkH (i := 12) (v := ?_) ?_
       try simp only [Act.put, pzz]
       refine tkH (i := 13) (v := ?_) ?_
       try simp only [Act.put, pzz]
       refine tkH (i := 14) (v := ?_) ?_
       try simp only [Act.put, pzz]
       refine tkH (i := 15) (v := ?_) ?_
       try simp only [Act.put, pzz]
       refine tkH (i := 16) (v := ?_) ?_
       try simp only [Act.put, pzz]
       refine tkH (i := 17) (v := ?_) ?_
       try simp only [Act.put, pzz]
       refine tkH (i := 18) (v := ?_) ?_
       try simp only [Act.put, pzz]
       refine tkH (i := 19) (v := ?_) ?_
       try simp only [Act.put, pzz]
       refine tkH (i := 20) (v := ?_) ?_
       try simp only [Act.put, pzz]
       refine tkH (i := 21) (v := ?_) ?_
       try simp only [Act.put, pzz]
       refine tkH (i := 22) (v := ?_) ?_
       try simp only [Act.put, pzz]
       refine wpAnyH_done (by kernel_rfl) ?_ _
       have HX2 := Lib.hid (HX.out.drew.trans EW.out)
       clear b0 lk hS2 hfl EW
       go_wp2_with fail
       go_roundw
       case rel => exact ⟨j + 1, by go_num, by omega, HX2, HN2⟩
       case measure => simp [intOf]; omega
  ·obtain rfl : n = j := by omega
   have i2 : decide ((n : Int) < (n : Int)) = false := decide_eq_false (by omega)
   have hrr : r = true := by
    rw [← HA.out, List.drop_eq_nil_of_le (by rw [HN.out]; exact Nat.le_refl _)]; rfl
   subst hrr
   go_wp2_with fail
   go_ret
   exact ⟨rfl, HE.out⟩
end Go.Proofs.YtkbcnacjaakleaaGreatDoor
