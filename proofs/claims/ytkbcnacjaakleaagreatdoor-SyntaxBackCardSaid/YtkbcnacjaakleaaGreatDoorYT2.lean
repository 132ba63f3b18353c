/- The teller: ahead. The teller: table. -/
import Derived.Test.YtkbcnacjaakleaaGreatDoorYT1
import Derived.Test.YtkbcnacjaakleaaGreatDoorYP19
set_option maxRecDepth 100000
set_option maxHeartbeats 32000000
set_option linter.unusedVariables false
set_option linter.unusedSimpArgs false
namespace Go.Proofs.YtkbcnacjaakleaaGreatDoor
open Go.RowKit

theorem TG.low' {T : Nat} {w0 W : World} {v0 v : Value} {K : List (Nat × Obj)} {l : List Wd} {b o : Nat} {x : Value} (h : TG T w0 v0 K W v l) (hb : b < T) (hc : w0.cell? ⟨b, o, none⟩ = some x) : W.cell? ⟨b, o, none⟩ = some x :=
 (World.cell?_of_block (h.keep b (cell_lt hc) (by omega) (fun e => by have := (h.row0 b e).1; omega))).trans hc
theorem TG.kid0 {T : Nat} {w0 W : World} {v0 v : Value} {K : List (Nat × Obj)} {l : List Wd} {d : Nat} {q : Option Addr} {n c : Nat} {ks : List Nd} {y : Nd} (h : TG T w0 v0 K W v l) (hk : KidsAt (· < T) w0 d (.slice q n c) ks) (hy : ks[0]? = some y) :
  ∃ b o qn nn cn ql kn cl, q = some ⟨b, o, none⟩ ∧ b < T ∧ b < W.heap.size ∧ W.cell? ⟨b, o, none⟩ = some (.int .i64 y.k) ∧ W.cell? ⟨b, o + 1, none⟩ = some (.string y.name) ∧ W.cell? ⟨b, o + 2, none⟩ = some (.string y.text) ∧
   W.cell? ⟨b, o + 3, none⟩ = some (.int .i64 y.n) ∧ W.cell? ⟨b, o + 4, none⟩ = some (.slice qn nn cn) ∧ W.cell? ⟨b, o + 5, none⟩ = some (.slice ql kn cl) ∧
   NodeAt (· < T) w0 (d - 1) (ndV y (.slice qn nn cn) (.slice ql kn cl)) y := by
 obtain ⟨hj, rfl⟩ := List.getElem?_eq_some_iff.1 hy
 obtain ⟨q', c', e⟩ := hk.slice
 injection e with e1 e2 e3
 subst e2
 obtain ⟨b, o, qn, cn, ql, cl, rfl, hb, h0, h1, h2, h3, h4, h5, hn⟩ := h.kid hk hj
 have hbT : b < T := by
  obtain ⟨b', o', e', hb', _⟩ := hk.elem hj
  obtain ⟨rfl, rfl⟩ : b = b' ∧ o = o' := by cases e'; exact ⟨rfl, rfl⟩
  exact hb'
 exact ⟨b, o, qn, _, cn, ql, _, cl, rfl, hbT, hb, by simpa using h0, by simpa using h1, by simpa using h2, by simpa using h3, by simpa using h4, by simpa using h5, hn⟩
theorem TG.kid1 {T : Nat} {w0 W : World} {v0 v : Value} {K : List (Nat × Obj)} {l : List Wd} {d : Nat} {q : Option Addr} {n c : Nat} {ks : List Nd} {y : Nd} (h : TG T w0 v0 K W v l) (hk : KidsAt (· < T) w0 d (.slice q n c) ks) (hy : ks[1]? = some y) :
  ∃ b o qn nn cn ql kn cl, q = some ⟨b, o, none⟩ ∧ b < T ∧ b < W.heap.size ∧ W.cell? ⟨b, o + 6, none⟩ = some (.int .i64 y.k) ∧ W.cell? ⟨b, o + 6 + 1, none⟩ = some (.string y.name) ∧ W.cell? ⟨b, o + 6 + 2, none⟩ = some (.string y.text) ∧
   W.cell? ⟨b, o + 6 + 3, none⟩ = some (.int .i64 y.n) ∧ W.cell? ⟨b, o + 6 + 4, none⟩ = some (.slice qn nn cn) ∧ W.cell? ⟨b, o + 6 + 5, none⟩ = some (.slice ql kn cl) ∧
   NodeAt (· < T) w0 (d - 1) (ndV y (.slice qn nn cn) (.slice ql kn cl)) y := by
 obtain ⟨hj, rfl⟩ := List.getElem?_eq_some_iff.1 hy
 obtain ⟨q', c', e⟩ := hk.slice
 injection e with e1 e2 e3
 subst e2
 obtain ⟨b, o, qn, cn, ql, cl, rfl, hb, h0, h1, h2, h3, h4, h5, hn⟩ := h.kid hk hj
 have hbT : b < T := by
  obtain ⟨b', o', e', hb', _⟩ := hk.elem hj
  obtain ⟨rfl, rfl⟩ : b = b' ∧ o = o' := by cases e'; exact ⟨rfl, rfl⟩
  exact hb'
 exact ⟨b, o, qn, _, cn, ql, _, cl, rfl, hbT, hb, by simpa using h0, by simpa using h1, by simpa using h2, by simpa using h3, by simpa using h4, by simpa using h5, hn⟩
theorem tahead_any (w : World) (T : Nat) (v : Value) (l : List Wd) (u : Value) (d : Nat) (x y : Nd) (hx : x.k = 22 ∨ x.k = 23 ∨ x.k = 24) (hks : x.kids = [y]) (hX : XC (d - 1) y) (hn : NodeAt (· < T) w d u x) (h : TG T w v [] w v l) (hb : l.length + (tellN x).length ≤ 1000000000) :
  Calls Tryz.prog 214 #[.pointer (some ⟨T, 0, none⟩), u] w (TellE T w v l (tellN x)) := by
 have HBD := Lib.hid hb
 have HND := Lib.hid hn
 have HT := Lib.hid (show tellN x = aheadW x.k :: innerT (madeK y.k) (tellN y) by
  rw [tellN_eq, hks]
  rcases hx with e | e | e <;> simp [e, tellK])
 have HXY := Lib.hid hX
 obtain ⟨qn, cn, ql, cl, rfl, _, hk⟩ := hn.parts
 rw [hks] at hk ⊢
 have HK := Lib.hid hk
 have l0 := h.blk.lt
 generalize x.names.length = nn at *
 obtain ⟨kn, hkn⟩ : ∃ kn, [y].length = kn := ⟨_, rfl⟩
 have HKN := Lib.hid hkn
 rw [hkn] at HK ⊢
 have kn0 : (0 : Int) < (kn : Int) := by rw [← hkn]; simp
 have kn1 : 0 < kn := by rw [← hkn]; simp
 have HS0 := Lib.hid (h.newK (ndO x (.slice qn nn cn) (.slice ql kn cl)))
 clear hn h hb hX hk hkn hks
 rcases hx with hx | hx | hx
 ·have HAW : Hid (aheadW x.k = kwW tNot) := Lib.hid (by rw [hx]; rfl)
  have e22 : (x.k == 22) = true := by rw [hx]; rfl
  have e23 : (x.k == 23) = false := by rw [hx]; rfl
  clear hx
  have HBB := Lib.hid (show l.length + (innerT (madeK y.k) (tellN y)).length + 1 ≤ 1000000000 by have := HBD.out; rw [HT.out] at this; simp at this ⊢; omega)
  go_enter Tryz.func214, Tryz.ntmps214
  go_wp2_with fail
  have hsz : (w.alloc (ndO x (.slice qn nn cn) (.slice ql kn cl))).heap.size = w.heap.size + 1 := size_alloc _ _
  generalize w.alloc (ndO x (.slice qn nn cn) (.slice ql kn cl)) = W0 at *
  refine (tkey_any W0 T v l ⟨#[110, 111, 116]⟩ HS0.out.self (by have := HBB.out; omega)).mono ?_
  rintro e w1 ⟨⟨_, rfl⟩, v1, S1⟩
  have HS1 := Lib.hid (HS0.out.call S1)
  clear S1
  obtain ⟨b, o, qm, mm, cm, qk, mk, ck, rfl, bT, bw, k0, k1, k2, k3, k4, k5, hny⟩ := HS1.out.kid0 HK.out (y := y) rfl
  have HNY := Lib.hid hny
  obtain ⟨b0, b1, b2, b3, b4, b5, bl⟩ := HS1.out.nbox
  have SS := And.intro b5 (And.intro k0 (And.intro k1 (And.intro k2 (And.intro k3 (And.intro k4 k5)))))
  clear hny b0 b1 b2 b3 b4 b5 k0 k1 k2 k3 k4 k5
  go_wp2_with fail
  refine wp_region_held_drew (S := fun w' => w'.cell? ⟨w.heap.size, 5, none⟩ = some (.slice (some ⟨b, o, none⟩) kn cl) ∧ w'.cell? ⟨b, o, none⟩ = some (.int .i64 y.k) ∧ w'.cell? ⟨b, o + 1, none⟩ = some (.string y.name) ∧ w'.cell? ⟨b, o + 2, none⟩ = some (.string y.text) ∧ w'.cell? ⟨b, o + 3, none⟩ = some (.int .i64 y.n) ∧ w'.cell? ⟨b, o + 4, none⟩ = some (.slice qm mm cm) ∧ w'.cell? ⟨b, o + 5, none⟩ = some (.slice qk mk ck)) (by kernel_rfl) (SS) (fun hHeld => ?_)
  refine tkH (i := 0) (v := ?_) ?_
  try simp only [Act.put, pzz]
  refine tkH (i := 1) (v := ?_) ?_
  try simp only [Act.put, pzz]
  refine tkH (i := 2) (v := ?_) ?_
  try simp only [Act.put, pzz]
  refine tkH (i := 3) (v := ?_) ?_
  try simp only [Act.put, pzz]
  refine tkH (i := 4) (v := ?_) ?_
  try simp only [Act.put, pzz]
  refine tkH (i := 5) (v := ?_) ?_
  try simp only [Act.put, pzz]
  refine tkH (i := 6) (v := ?_) ?_
  try simp only [Act.put, pzz]
  refine tkH (i := 7) (v := ?_) ?_
  try simp only [Act.put, pzz]
  refine tkH (i := 8) (v := ?_) ?_
  try simp only [Act.put, pzz]
  refine wpAnyH_ready (rs := [9]) (by kernel_rfl) (by simp) ?_
  refine AllReadyH.cons rfl (fun K hK => ?_) AllReadyH.nil
  obtain ⟨b5, k0, k1, k2, k3, k4, k5⟩ := id hHeld
  go_simp
  refine (made_any _ y qm mm cm qk mk ck).mono ?_
  rintro e wm ⟨rfl, em⟩
  have HSm := Lib.hid (HS1.out.ext ((Ext.refl _).drew.trans em))
  have b5m := em.cell b5
  have k0m := em.cell k0
  have k1m := em.cell k1
  have k2m := em.cell k2
  have k3m := em.cell k3
  have k4m := em.cell k4
  have k5m := em.cell k5
  clear hHeld
  have hHeld := trivial
  clear em b5 k0 k1 k2 k3 k4 k5
  clear hHeld
  refine hK.out _ _ (⟨b5m, k0m, k1m, k2m, k3m, k4m, k5m⟩) (fun hHeld => ?_)
  clear hK K
  try simp only [Act.put, pzz]
  refine wpAnyH_ready (rs := [10]) (by kernel_rfl) (by simp) ?_
  refine AllReadyH.cons rfl (fun K hK => ?_) AllReadyH.nil
  go_simp
  refine (tinner_any wm T v1 _ _ (d - 1) y (madeK y.k) HXY.out (HSm.out.node HNY.out) HSm.out.self (by have := HBB.out; simp; omega)).mono ?_
  rintro e w3 ⟨⟨_, rfl⟩, v3, S3⟩
  have HS3 := Lib.hid (HSm.out.call S3)
  have b5z := HS3.out.nbox.2.2.2.2.2.1
  have k0z := S3.low' bT k0m
  have k1z := S3.low' bT k1m
  have k2z := S3.low' bT k2m
  have k3z := S3.low' bT k3m
  have k4z := S3.low' bT k4m
  have k5z := S3.low' bT k5m
  clear S3 b5m k0m k1m k2m k3m k4m k5m
  clear hHeld
  refine hK.out _ _ (⟨b5z, k0z, k1z, k2z, k3z, k4z, k5z⟩) (fun hHeld => ?_)
  clear hK K
  try simp only [Act.put, pzz]
  refine wpAnyH_done (by kernel_rfl) ?_ _
  clear b5z k0z k1z k2z k3z k4z k5z
  go_wp2_with fail
  go_end0
  exact ⟨⟨_, rfl⟩, v3, by rw [HT.out, HAW.out]; simpa [List.append_assoc] using HS3.out.nob⟩
 ·have HAW : Hid (aheadW x.k = sgW [45]) := Lib.hid (by rw [hx]; rfl)
  have e22 : (x.k == 22) = false := by rw [hx]; rfl
  have e23 : (x.k == 23) = true := by rw [hx]; rfl
  clear hx
  have HBB := Lib.hid (show l.length + (innerT (madeK y.k) (tellN y)).length + 1 ≤ 1000000000 by have := HBD.out; rw [HT.out] at this; simp at this ⊢; omega)
  go_enter Tryz.func214, Tryz.ntmps214
  go_wp2_with fail
  have hsz : (w.alloc (ndO x (.slice qn nn cn) (.slice ql kn cl))).heap.size = w.heap.size + 1 := size_alloc _ _
  generalize w.alloc (ndO x (.slice qn nn cn) (.slice ql kn cl)) = W0 at *
  refine (tsign1' W0 T v l ⟨#[45]⟩ HS0.out.self (by have := HBB.out; omega) _ hsz).mono ?_
  rintro e w1 ⟨⟨_, rfl⟩, v1, S1⟩
  have HS1 := Lib.hid (HS0.out.call S1)
  clear S1
  obtain ⟨b, o, qm, mm, cm, qk, mk, ck, rfl, bT, bw, k0, k1, k2, k3, k4, k5, hny⟩ := HS1.out.kid0 HK.out (y := y) rfl
  have HNY := Lib.hid hny
  obtain ⟨b0, b1, b2, b3, b4, b5, bl⟩ := HS1.out.nbox
  have SS := And.intro b5 (And.intro k0 (And.intro k1 (And.intro k2 (And.intro k3 (And.intro k4 k5)))))
  clear hny b0 b1 b2 b3 b4 b5 k0 k1 k2 k3 k4 k5
  go_wp2_with fail
  refine wp_region_held_drew (S := fun w' => w'.cell? ⟨w.heap.size, 5, none⟩ = some (.slice (some ⟨b, o, none⟩) kn cl) ∧ w'.cell? ⟨b, o, none⟩ = some (.int .i64 y.k) ∧ w'.cell? ⟨b, o + 1, none⟩ = some (.string y.name) ∧ w'.cell? ⟨b, o + 2, none⟩ = some (.string y.text) ∧ w'.cell? ⟨b, o + 3, none⟩ = some (.int .i64 y.n) ∧ w'.cell? ⟨b, o + 4, none⟩ = some (.slice qm mm cm) ∧ w'.cell? ⟨b, o + 5, none⟩ = some (.slice qk mk ck)) (by kernel_rfl) (SS) (fun hHeld => ?_)
  refine tkH (i := 0) (v := ?_) ?_
  try simp only [Act.put, pzz]
  refine tkH (i := 1) (v := ?_) ?_
  try simp only [Act.put, pzz]
  refine tkH (i := 2) (v := ?_) ?_
  try simp only [Act.put, pzz]
  refine tkH (i := 3) (v := ?_) ?_
  try simp only [Act.put, pzz]
  refine tkH (i := 4) (v := ?_) ?_
  try simp only [Act.put, pzz]
  refine tkH (i := 5) (v := ?_) ?_
  try simp only [Act.put, pzz]
  refine tkH (i := 6) (v := ?_) ?_
  try simp only [Act.put, pzz]
  refine tkH (i := 7) (v := ?_) ?_
  try simp only [Act.put, pzz]
  refine tkH (i := 8) (v := ?_) ?_
  try simp only [Act.put, pzz]
  refine wpAnyH_ready (rs := [9]) (by kernel_rfl) (by simp) ?_
  refine AllReadyH.cons rfl (fun K hK => ?_) AllReadyH.nil
  obtain ⟨b5, k0, k1, k2, k3, k4, k5⟩ := id hHeld
  go_simp
  refine (made_any _ y qm mm cm qk mk ck).mono ?_
  rintro e wm ⟨rfl, em⟩
  have HSm := Lib.hid (HS1.out.ext ((Ext.refl _).drew.trans em))
  have b5m := em.cell b5
  have k0m := em.cell k0
  have k1m := em.cell k1
  have k2m := em.cell k2
  have k3m := em.cell k3
  have k4m := em.cell k4
  have k5m := em.cell k5
  clear hHeld
  have hHeld := trivial
  clear em b5 k0 k1 k2 k3 k4 k5
  clear hHeld
  refine hK.out _ _ (⟨b5m, k0m, k1m, k2m, k3m, k4m, k5m⟩) (fun hHeld => ?_)
  clear hK K
  try simp only [Act.put, pzz]
  refine wpAnyH_ready (rs := [10]) (by kernel_rfl) (by simp) ?_
  refine AllReadyH.cons rfl (fun K hK => ?_) AllReadyH.nil
  go_simp
  refine (tinner_any wm T v1 _ _ (d - 1) y (madeK y.k) HXY.out (HSm.out.node HNY.out) HSm.out.self (by have := HBB.out; simp; omega)).mono ?_
  rintro e w3 ⟨⟨_, rfl⟩, v3, S3⟩
  have HS3 := Lib.hid (HSm.out.call S3)
  have b5z := HS3.out.nbox.2.2.2.2.2.1
  have k0z := S3.low' bT k0m
  have k1z := S3.low' bT k1m
  have k2z := S3.low' bT k2m
  have k3z := S3.low' bT k3m
  have k4z := S3.low' bT k4m
  have k5z := S3.low' bT k5m
  clear S3 b5m k0m k1m k2m k3m k4m k5m
  clear hHeld
  refine hK.out _ _ (⟨b5z, k0z, k1z, k2z, k3z, k4z, k5z⟩) (fun hHeld => ?_)
  clear hK K
  try simp only [Act.put, pzz]
  refine wpAnyH_done (by kernel_rfl) ?_ _
  clear b5z k0z k1z k2z k3z k4z k5z
  go_wp2_with fail
  go_end0
  exact ⟨⟨_, rfl⟩, v3, by rw [HT.out, HAW.out]; simpa [List.append_assoc] using HS3.out.nob⟩
 ·have HAW : Hid (aheadW x.k = sgW [35]) := Lib.hid (by rw [hx]; rfl)
  have e22 : (x.k == 22) = false := by rw [hx]; rfl
  have e23 : (x.k == 23) = false := by rw [hx]; rfl
  clear hx
  have HBB := Lib.hid (show l.length + (innerT (madeK y.k) (tellN y)).length + 1 ≤ 1000000000 by have := HBD.out; rw [HT.out] at this; simp at this ⊢; omega)
  go_enter Tryz.func214, Tryz.ntmps214
  go_wp2_with fail
  have hsz : (w.alloc (ndO x (.slice qn nn cn) (.slice ql kn cl))).heap.size = w.heap.size + 1 := size_alloc _ _
  generalize w.alloc (ndO x (.slice qn nn cn) (.slice ql kn cl)) = W0 at *
  refine (tsign1' W0 T v l ⟨#[35]⟩ HS0.out.self (by have := HBB.out; omega) _ hsz).mono ?_
  rintro e w1 ⟨⟨_, rfl⟩, v1, S1⟩
  have HS1 := Lib.hid (HS0.out.call S1)
  clear S1
  obtain ⟨b, o, qm, mm, cm, qk, mk, ck, rfl, bT, bw, k0, k1, k2, k3, k4, k5, hny⟩ := HS1.out.kid0 HK.out (y := y) rfl
  have HNY := Lib.hid hny
  obtain ⟨b0, b1, b2, b3, b4, b5, bl⟩ := HS1.out.nbox
  have SS := And.intro b5 (And.intro k0 (And.intro k1 (And.intro k2 (And.intro k3 (And.intro k4 k5)))))
  clear hny b0 b1 b2 b3 b4 b5 k0 k1 k2 k3 k4 k5
  go_wp2_with fail
  refine wp_region_held_drew (S := fun w' => w'.cell? ⟨w.heap.size, 5, none⟩ = some (.slice (some ⟨b, o, none⟩) kn cl) ∧ w'.cell? ⟨b, o, none⟩ = some (.int .i64 y.k) ∧ w'.cell? ⟨b, o + 1, none⟩ = some (.string y.name) ∧ w'.cell? ⟨b, o + 2, none⟩ = some (.string y.text) ∧ w'.cell? ⟨b, o + 3, none⟩ = some (.int .i64 y.n) ∧ w'.cell? ⟨b, o + 4, none⟩ = some (.slice qm mm cm) ∧ w'.cell? ⟨b, o + 5, none⟩ = some (.slice qk mk ck)) (by kernel_rfl) (SS) (fun hHeld => ?_)
  refine tkH (i := 0) (v := ?_) ?_
  try simp only [Act.put, pzz]
  refine tkH (i := 1) (v := ?_) ?_
  try simp only [Act.put, pzz]
  refine tkH (i := 2) (v := ?_) ?_
  try simp only [Act.put, pzz]
  refine tkH (i := 3) (v := ?_) ?_
  try simp only [Act.put, pzz]
  refine tkH (i := 4) (v := ?_) ?_
  try simp only [Act.put, pzz]
  refine tkH (i := 5) (v := ?_) ?_
  try simp only [Act.put, pzz]
  refine tkH (i := 6) (v := ?_) ?_
  try simp only [Act.put, pzz]
  refine tkH (i := 7) (v := ?_) ?_
  try simp only [Act.put, pzz]
  refine tkH (i := 8) (v := ?_) ?_
  try simp only [Act.put, pzz]
  refine wpAnyH_ready (rs := [9]) (by kernel_rfl) (by simp) ?_
  refine AllReadyH.cons rfl (fun K hK => ?_) AllReadyH.nil
  obtain ⟨b5, k0, k1, k2, k3, k4, k5⟩ := id hHeld
  go_simp
  refine (made_any _ y qm mm cm qk mk ck).mono ?_
  rintro e wm ⟨rfl, em⟩
  have HSm := Lib.hid (HS1.out.ext ((Ext.refl _).drew.trans em))
  have b5m := em.cell b5
  have k0m := em.cell k0
  have k1m := em.cell k1
  have k2m := em.cell k2
  have k3m := em.cell k3
  have k4m := em.cell k4
  have k5m := em.cell k5
  clear hHeld
  have hHeld := trivial
  clear em b5 k0 k1 k2 k3 k4 k5
  clear hHeld
  refine hK.out _ _ (⟨b5m, k0m, k1m, k2m, k3m, k4m, k5m⟩) (fun hHeld => ?_)
  clear hK K
  try simp only [Act.put, pzz]
  refine wpAnyH_ready (rs := [10]) (by kernel_rfl) (by simp) ?_
  refine AllReadyH.cons rfl (fun K hK => ?_) AllReadyH.nil
  go_simp
  refine (tinner_any wm T v1 _ _ (d - 1) y (madeK y.k) HXY.out (HSm.out.node HNY.out) HSm.out.self (by have := HBB.out; simp; omega)).mono ?_
  rintro e w3 ⟨⟨_, rfl⟩, v3, S3⟩
  have HS3 := Lib.hid (HSm.out.call S3)
  have b5z := HS3.out.nbox.2.2.2.2.2.1
  have k0z := S3.low' bT k0m
  have k1z := S3.low' bT k1m
  have k2z := S3.low' bT k2m
  have k3z := S3.low' bT k3m
  have k4z := S3.low' bT k4m
  have k5z := S3.low' bT k5m
  clear S3 b5m k0m k1m k2m k3m k4m k5m
  clear hHeld
  refine hK.out _ _ (⟨b5z, k0z, k1z, k2z, k3z, k4z, k5z⟩) (fun hHeld => ?_)
  clear hK K
  try simp only [Act.put, pzz]
  refine wpAnyH_done (by kernel_rfl) ?_ _
  clear b5z k0z k1z k2z k3z k4z k5z
  go_wp2_with fail
  go_end0
  exact ⟨⟨_, rfl⟩, v3, by rw [HT.out, HAW.out]; simpa [List.append_assoc] using HS3.out.nob⟩
theorem comma_le {M : List (List Wd)} {j : Nat} (hj : j < M.length) : (commaT (M.take (j + 1))).length ≤ (commaT M).length := by
 have : ∀ k, j + 1 + k ≤ M.length → (commaT (M.take (j + 1))).length ≤ (commaT (M.take (j + 1 + k))).length := by
  intro k
  induction k with
  | zero => intro _; exact Nat.le_refl _
  | succ k ih =>
   intro hk
   refine Nat.le_trans (ih (by omega)) ?_
   rw [show j + 1 + (k + 1) = (j + 1 + k) + 1 from rfl, commaT_take (l := M) (j := j + 1 + k) (by omega), if_neg (by omega)]
   simp
 have e := this (M.length - (j + 1)) (by omega)
 rw [show j + 1 + (M.length - (j + 1)) = M.length by omega, List.take_length] at e
 exact e
theorem NodeAt.kids' {ok : Nat → Prop} {w : World} {d : Nat} {x : Nd} {nv lv : Value} (h : NodeAt ok w d (ndV x nv lv) x) : KidsAt ok w d lv x.kids := by
 obtain ⟨nv', lv', e, _, hk⟩ := h
 have e5 := congrArg (fun v => match v with | .agg a => a[5]? | _ => none) e
 simp at e5
 rw [e5]
 exact hk
theorem ttable_any (w : World) (T : Nat) (v : Value) (l : List Wd) (u : Value) (d : Nat) (ks : List Nd) (hX : ∀ y ∈ ks, (y.k = 19 ∧ ∃ a, y.kids = [a] ∧ XC (d - 1 - 1) a) ∨ (y.k = 20 ∧ ∃ a b, y.kids = [a, b] ∧ XC (d - 1 - 1) a ∧ XC (d - 1 - 1) b)) (hk : KidsAt (· < T) w d u ks) (h : TG T w v [] w v l) (hks : ks.length ≤ 140737488355328) (hl : l.length + (commaT (ks.map tellN)).length + 2 ≤ 1000000000) :
  Calls Tryz.prog 212 #[.pointer (some ⟨T, 0, none⟩), u] w (TellE T w v l (sgW [123] :: (commaT (ks.map tellN) ++ [sgW [125]]))) := by
 obtain ⟨q, c, rfl⟩ := hk.slice
 have H := Lib.hid h
 obtain ⟨n, hn⟩ : ∃ n, ks.length = n := ⟨_, rfl⟩
 have HN := Lib.hid hn
 have HKS := Lib.hid hk
 rw [hn] at hks ⊢
 obtain ⟨M, hM⟩ : ∃ M, ks.map tellN = M := ⟨_, rfl⟩
 have hMl : M.length = n := by rw [← hM, List.length_map, hn]
 rw [hM] at hl ⊢
 have HM := Lib.hid hM
 have HML := Lib.hid hMl
 have HX := Lib.hid hX
 have HL := Lib.hid hl
 clear h hk hn hM hMl hX hl
 go_enter Tryz.func212, Tryz.ntmps212
 go_wp2_with fail
 refine (tsign1 w T v l ⟨#[123]⟩ H.out (by have := HL.out; omega)).mono ?_
 rintro e wa ⟨⟨_, rfl⟩, va, Sa⟩
 have HSA := Lib.hid (H.out.call Sa)
 clear Sa
 go_wp2_with fail
 go_loopw [11] (fun i wr => ∃ (j : Nat) (v' : Value), i = .int .i64 (j : Int) ∧ j ≤ n ∧ Hid (TG T w v [] wr v' (l ++ sgW [123] :: commaT (M.take j)))) (fun i _ => n - (intOf i).toNat)
 case atStart => exact ⟨0, va, rfl, Nat.zero_le _, Lib.hid (by simpa [commaT, sgW] using HSA.out)⟩
 case round =>
  obtain ⟨j, v', rfl, hj, HS⟩ := hrel
  by_cases hlt : j < n
  ·have jl : j < ks.length := by rw [HN.out]; exact hlt
   have jM : j < M.length := by rw [HML.out]; exact hlt
   obtain ⟨b, o, qn, cn, ql, cl, rfl, gw, c0, c1, c2, c3, c4, c5, hnd⟩ := HS.out.kid HKS.out jl
   have hT := commaT_take jM
   have hMj : M[j] = tellN ks[j] := by simp [← HM.out]
   rw [hMj] at hT
   have hX := HX.out ks[j] (List.getElem_mem jl)
   have hle := comma_le jM
   obtain ⟨y, hy⟩ : ∃ y, ks[j] = y := ⟨_, rfl⟩
   rw [hy] at c0 c1 c2 c3 c4 c5 hnd hT hX
   generalize y.names.length = yn at *
   obtain ⟨yk, hyk0⟩ : ∃ yk, y.kids.length = yk := ⟨_, rfl⟩
   rw [hyk0] at c5 hnd
   have hyK := hnd.kids'
   have i0 : (0 : Int) ≤ (j : Int) := by omega
   have i1 : (j : Int) < (n : Int) := by omega
   have i2 : decide ((j : Int) < (n : Int)) = true := decide_eq_true i1
   have HT := Lib.hid hT
   have HB := Lib.hid (show l.length + (commaT (M.take (j + 1))).length + 2 ≤ 1000000000 by have := HL.out; omega)
   have HS0 := Lib.hid (HS.out.newK (ndO y (.slice qn yn cn) (.slice ql yk cl)))
   clear hT hMj jM jl hy hnd hle
   rcases hX with ⟨hyk, p, hyk2, hxp⟩ | ⟨hyk, p, z, hyk2, hxp, hxz⟩
   ·by_cases hz : j = 0
    ·skip
     have HXP := Lib.hid hxp
     have HTY := Lib.hid (show tellN y = tellN p by rw [tellN_eq, hyk2]; simp [hyk, tellK])
     clear hxp
     have e20 : (y.k == 20) = false := by rw [hyk]; rfl
     rw [hyk2] at hyK hyk0
     obtain rfl : yk = 1 := hyk0.symm
     have HYK := Lib.hid hyK
     clear hyK hyk0 hyk2 hyk
     have i3 : decide ((0 : Int) < (j : Int)) = false := decide_eq_false (by omega)
     have i4 : decide (0 < j) = false := decide_eq_false (by omega)
     have HT2 := Lib.hid (show commaT (M.take (j + 1)) = tellN y by rw [HT.out, if_pos hz])
     have HE2 := Lib.hid (show commaT (M.take j) = [] by rw [hz]; rfl)
     clear hz HT
     go_upto_region 4 with (fail)
     have hsz : (wr.alloc (ndO y (.slice qn yn cn) (.slice ql 1 cl))).heap.size = wr.heap.size + 1 := size_alloc _ _
     generalize wr.alloc (ndO y (.slice qn yn cn) (.slice ql 1 cl)) = W0 at *
     clear c0 c1 c2 c3 c4 c5
     obtain ⟨b0, b1, b2, b3, b4, b5, bl⟩ := HS0.out.nbox
     obtain ⟨kb, ko, qm, mm, cm, qk, mk, ck, hq, bT, bw, k0, k1, k2, k3, k4, k5, hny⟩ := HS0.out.kid0 HYK.out (y := p) rfl
     have HNY := Lib.hid hny
     clear hny
     cases hq
     go_wp2_with fail
     refine (HXP.out W0 T v' _ _ (HS0.out.node HNY.out) HS0.out.self (by have := HB.out; rw [HT2.out, HTY.out] at this; rw [HE2.out]; simp at this ⊢; omega)).mono ?_
     rintro e w1 ⟨⟨_, rfl⟩, v1, S1⟩
     have HS1 := Lib.hid (HS0.out.call S1)
     clear S1
     clear b0 b1 b2 b3 b4 b5 bl k0 k1 k2 k3 k4 k5 HNY bT bw
     have HSF := Lib.hid (show TG T w v [] w1 v1 (l ++ sgW [123] :: commaT (M.take (j + 1))) by
      have := HS1.out.nob
      rw [HE2.out] at this
      rw [HT2.out, HTY.out]
      simpa [List.append_assoc, sgW] using this)
     go_wp2_with fail
     go_roundw
     case rel => exact ⟨j + 1, _, by go_num, hlt, HSF⟩
     case measure => simp [intOf]; omega
    ·skip
     have HXP := Lib.hid hxp
     have HTY := Lib.hid (show tellN y = tellN p by rw [tellN_eq, hyk2]; simp [hyk, tellK])
     clear hxp
     have e20 : (y.k == 20) = false := by rw [hyk]; rfl
     rw [hyk2] at hyK hyk0
     obtain rfl : yk = 1 := hyk0.symm
     have HYK := Lib.hid hyK
     clear hyK hyk0 hyk2 hyk
     have i3 : decide ((0 : Int) < (j : Int)) = true := decide_eq_true (by omega)
     have i4 : decide (0 < j) = true := decide_eq_true (by omega)
     have HT2 := Lib.hid (show commaT (M.take (j + 1)) = commaT (M.take j) ++ sgW [44] :: tellN y by rw [HT.out, if_neg hz])
     clear hz HT
     go_wp2_with fail
     have hsz : (wr.alloc (ndO y (.slice qn yn cn) (.slice ql 1 cl))).heap.size = wr.heap.size + 1 := size_alloc _ _
     generalize wr.alloc (ndO y (.slice qn yn cn) (.slice ql 1 cl)) = W0 at *
     clear c0 c1 c2 c3 c4 c5
     refine (tsign1' W0 T v' _ ⟨#[44]⟩ HS0.out.self (by have := HB.out; rw [HT2.out, HTY.out] at this; simp at this ⊢; omega) _ hsz).mono ?_
     rintro e w1 ⟨⟨_, rfl⟩, v1, S1⟩
     have HS1 := Lib.hid (HS0.out.call S1)
     clear S1
     obtain ⟨b0, b1, b2, b3, b4, b5, bl⟩ := HS1.out.nbox
     obtain ⟨kb, ko, qm, mm, cm, qk, mk, ck, hq, bT, bw, k0, k1, k2, k3, k4, k5, hny⟩ := HS1.out.kid0 HYK.out (y := p) rfl
     have HNY := Lib.hid hny
     clear hny
     cases hq
     go_wp2_with fail
     refine (HXP.out w1 T v1 _ _ (HS1.out.node HNY.out) HS1.out.self (by have := HB.out; rw [HT2.out, HTY.out] at this; simp at this ⊢; omega)).mono ?_
     rintro e w2 ⟨⟨_, rfl⟩, v2, S2⟩
     have HS2 := Lib.hid (HS1.out.call S2)
     clear S2
     clear b0 b1 b2 b3 b4 b5 bl k0 k1 k2 k3 k4 k5 HNY bT bw
     have HSF := Lib.hid (show TG T w v [] w2 v2 (l ++ sgW [123] :: commaT (M.take (j + 1))) by
      have := HS2.out.nob
      rw [HT2.out, HTY.out]
      simpa [List.append_assoc, sgW] using this)
     go_wp2_with fail
     go_roundw
     case rel => exact ⟨j + 1, _, by go_num, hlt, HSF⟩
     case measure => simp [intOf]; omega
   ·by_cases hz : j = 0
    ·skip
     have HXP := Lib.hid hxp
     have HXZ := Lib.hid hxz
     have HTY := Lib.hid (show tellN y = sgW [91] :: (tellN p ++ sgW [93] :: sgW [61] :: tellN z) by rw [tellN_eq, hyk2]; simp [hyk, tellK])
     clear hxp hxz
     have e20 : (y.k == 20) = true := by rw [hyk]; rfl
     rw [hyk2] at hyK hyk0
     obtain rfl : yk = 2 := hyk0.symm
     have HYK := Lib.hid hyK
     clear hyK hyk0 hyk2 hyk
     have i3 : decide ((0 : Int) < (j : Int)) = false := decide_eq_false (by omega)
     have i4 : decide (0 < j) = false := decide_eq_false (by omega)
     have HT2 := Lib.hid (show commaT (M.take (j + 1)) = tellN y by rw [HT.out, if_pos hz])
     have HE2 := Lib.hid (show commaT (M.take j) = [] by rw [hz]; rfl)
     clear hz HT
     go_wp2_with fail
     have hsz : (wr.alloc (ndO y (.slice qn yn cn) (.slice ql 2 cl))).heap.size = wr.heap.size + 1 := size_alloc _ _
     generalize wr.alloc (ndO y (.slice qn yn cn) (.slice ql 2 cl)) = W0 at *
     clear c0 c1 c2 c3 c4 c5
     refine (tsign1' W0 T v' _ ⟨#[91]⟩ HS0.out.self (by have := HB.out; rw [HT2.out, HTY.out] at this; rw [HE2.out]; simp at this ⊢; omega) _ hsz).mono ?_
     rintro e w1 ⟨⟨_, rfl⟩, v1, S1⟩
     have HS1 := Lib.hid (HS0.out.call S1)
     clear S1
     obtain ⟨b0, b1, b2, b3, b4, b5, bl⟩ := HS1.out.nbox
     obtain ⟨kb, ko, qm, mm, cm, qk, mk, ck, hq, bT, bw, k0, k1, k2, k3, k4, k5, hny⟩ := HS1.out.kid0 HYK.out (y := p) rfl
     have HNY := Lib.hid hny
     clear hny
     cases hq
     go_wp2_with fail
     refine (HXP.out w1 T v1 _ _ (HS1.out.node HNY.out) HS1.out.self (by have := HB.out; rw [HT2.out, HTY.out] at this; rw [HE2.out]; simp at this ⊢; omega)).mono ?_
     rintro e w2 ⟨⟨_, rfl⟩, v2, S2⟩
     have HS2 := Lib.hid (HS1.out.call S2)
     clear S2
     clear b0 b1 b2 b3 b4 b5 bl k0 k1 k2 k3 k4 k5 HNY bT bw
     go_wp2_with fail
     refine (tsign2 w2 T v2 _ ⟨#[93]⟩ ⟨#[61]⟩ HS2.out.self (by have := HB.out; rw [HT2.out, HTY.out] at this; rw [HE2.out]; simp at this ⊢; omega)).mono ?_
     rintro e w3 ⟨⟨_, rfl⟩, v3, S3⟩
     have HS3 := Lib.hid (HS2.out.call S3)
     clear S3
     obtain ⟨b0, b1, b2, b3, b4, b5, bl⟩ := HS3.out.nbox
     obtain ⟨kb, ko, qm, mm, cm, qk, mk, ck, hq, bT, bw, k0, k1, k2, k3, k4, k5, hny⟩ := HS3.out.kid1 HYK.out (y := z) rfl
     have HNY := Lib.hid hny
     clear hny
     cases hq
     go_wp2_with fail
     refine (HXZ.out w3 T v3 _ _ (HS3.out.node HNY.out) HS3.out.self (by have := HB.out; rw [HT2.out, HTY.out] at this; rw [HE2.out]; simp at this ⊢; omega)).mono ?_
     rintro e w4 ⟨⟨_, rfl⟩, v4, S4⟩
     have HS4 := Lib.hid (HS3.out.call S4)
     clear S4
     clear b0 b1 b2 b3 b4 b5 bl k0 k1 k2 k3 k4 k5 HNY bT bw
     have HSF := Lib.hid (show TG T w v [] w4 v4 (l ++ sgW [123] :: commaT (M.take (j + 1))) by
      have := HS4.out.nob
      rw [HE2.out] at this
      rw [HT2.out, HTY.out]
      simpa [List.append_assoc, sgW] using this)
     go_wp2_with fail
     go_roundw
     case rel => exact ⟨j + 1, _, by go_num, hlt, HSF⟩
     case measure => simp [intOf]; omega
    ·skip
     have HXP := Lib.hid hxp
     have HXZ := Lib.hid hxz
     have HTY := Lib.hid (show tellN y = sgW [91] :: (tellN p ++ sgW [93] :: sgW [61] :: tellN z) by rw [tellN_eq, hyk2]; simp [hyk, tellK])
     clear hxp hxz
     have e20 : (y.k == 20) = true := by rw [hyk]; rfl
     rw [hyk2] at hyK hyk0
     obtain rfl : yk = 2 := hyk0.symm
     have HYK := Lib.hid hyK
     clear hyK hyk0 hyk2 hyk
     have i3 : decide ((0 : Int) < (j : Int)) = true := decide_eq_true (by omega)
     have i4 : decide (0 < j) = true := decide_eq_true (by omega)
     have HT2 := Lib.hid (show commaT (M.take (j + 1)) = commaT (M.take j) ++ sgW [44] :: tellN y by rw [HT.out, if_neg hz])
     clear hz HT
     go_wp2_with fail
     have hsz : (wr.alloc (ndO y (.slice qn yn cn) (.slice ql 2 cl))).heap.size = wr.heap.size + 1 := size_alloc _ _
     generalize wr.alloc (ndO y (.slice qn yn cn) (.slice ql 2 cl)) = W0 at *
     clear c0 c1 c2 c3 c4 c5
     refine (tsign1' W0 T v' _ ⟨#[44]⟩ HS0.out.self (by have := HB.out; rw [HT2.out, HTY.out] at this; simp at this ⊢; omega) _ hsz).mono ?_
     rintro e w1 ⟨⟨_, rfl⟩, v1, S1⟩
     have HS1 := Lib.hid (HS0.out.call S1)
     clear S1
     obtain ⟨b0, b1, b2, b3, b4, b5, bl⟩ := HS1.out.nbox
     go_wp2_with fail
     clear b0 b1 b2 b3 b4 b5 bl
     refine (tsign1 w1 T v1 _ ⟨#[91]⟩ HS1.out.self (by have := HB.out; rw [HT2.out, HTY.out] at this; simp at this ⊢; omega)).mono ?_
     rintro e w2 ⟨⟨_, rfl⟩, v2, S2⟩
     have HS2 := Lib.hid (HS1.out.call S2)
     clear S2
     obtain ⟨b0, b1, b2, b3, b4, b5, bl⟩ := HS2.out.nbox
     obtain ⟨kb, ko, qm, mm, cm, qk, mk, ck, hq, bT, bw, k0, k1, k2, k3, k4, k5, hny⟩ := HS2.out.kid0 HYK.out (y := p) rfl
     have HNY := Lib.hid hny
     clear hny
     cases hq
     go_wp2_with fail
     refine (HXP.out w2 T v2 _ _ (HS2.out.node HNY.out) HS2.out.self (by have := HB.out; rw [HT2.out, HTY.out] at this; simp at this ⊢; omega)).mono ?_
     rintro e w3 ⟨⟨_, rfl⟩, v3, S3⟩
     have HS3 := Lib.hid (HS2.out.call S3)
     clear S3
     clear b0 b1 b2 b3 b4 b5 bl k0 k1 k2 k3 k4 k5 HNY bT bw
     go_wp2_with fail
     refine (tsign2 w3 T v3 _ ⟨#[93]⟩ ⟨#[61]⟩ HS3.out.self (by have := HB.out; rw [HT2.out, HTY.out] at this; simp at this ⊢; omega)).mono ?_
     rintro e w4 ⟨⟨_, rfl⟩, v4, S4⟩
     have HS4 := Lib.hid (HS3.out.call S4)
     clear S4
     obtain ⟨b0, b1, b2, b3, b4, b5, bl⟩ := HS4.out.nbox
     obtain ⟨kb, ko, qm, mm, cm, qk, mk, ck, hq, bT, bw, k0, k1, k2, k3, k4, k5, hny⟩ := HS4.out.kid1 HYK.out (y := z) rfl
     have HNY := Lib.hid hny
     clear hny
     cases hq
     go_wp2_with fail
     refine (HXZ.out w4 T v4 _ _ (HS4.out.node HNY.out) HS4.out.self (by have := HB.out; rw [HT2.out, HTY.out] at this; simp at this ⊢; omega)).mono ?_
     rintro e w5 ⟨⟨_, rfl⟩, v5, S5⟩
     have HS5 := Lib.hid (HS4.out.call S5)
     clear S5
     clear b0 b1 b2 b3 b4 b5 bl k0 k1 k2 k3 k4 k5 HNY bT bw
     have HSF := Lib.hid (show TG T w v [] w5 v5 (l ++ sgW [123] :: commaT (M.take (j + 1))) by
      have := HS5.out.nob
      rw [HT2.out, HTY.out]
      simpa [List.append_assoc, sgW] using this)
     go_wp2_with fail
     go_roundw
     case rel => exact ⟨j + 1, _, by go_num, hlt, HSF⟩
     case measure => simp [intOf]; omega
  ·obtain rfl : j = n := by omega
   have i2 : decide ((j : Int) < (j : Int)) = false := decide_eq_false (by omega)
   have HE := Lib.hid (show TG T w v [] wr v' (l ++ sgW [123] :: commaT M) by
    have := HS.out
    rw [List.take_of_length_le (show M.length ≤ j by rw [HML.out]; exact Nat.le_refl _)] at this
    exact this)
   go_wp2_with fail
   refine (tsign1 wr T v' _ ⟨#[125]⟩ HE.out.self (by have := HL.out; simp; omega)).mono ?_
   rintro e wz ⟨⟨_, rfl⟩, vz, Sz⟩
   have HSZ := Lib.hid (HE.out.call Sz)
   clear Sz
   go_wp2_with fail
   go_end0
   exact ⟨⟨_, rfl⟩, _, by simpa [List.append_assoc, sgW] using HSZ.out⟩
end Go.Proofs.YtkbcnacjaakleaaGreatDoor
