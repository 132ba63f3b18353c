/- A value is put under a key of a heap's table. -/
import Derived.Test.YtlfihdcgbhdajaaGreatDoorYB2
namespace Go.Proofs.YtlfihdcgbhdajaaGreatDoor
open Go.RowKit
set_option linter.unusedVariables false
set_option linter.unusedSimpArgs false

set_option maxRecDepth 100000 in
theorem set_type (g : Nat) (tv : Value) (rs : List (Nat × Nat)) (H : Hp) (t k v : Vl) (w : World) (h : HeapIn w g tv rs H) (hlen : H.tabs.length ≤ 9223372036854775807) (hk : in64 k.n) (hv : v.ck = false) :
  Calls Tryz.prog 20 #[.pointer (some ⟨g, 0, none⟩), t.v, k.v, v.v] w fun e w' => e = .returned (.string sType) ∧ Ext w w' := by
 have cG := fun W hW => get_any g tv rs H t k W hW hlen hk
 obtain ⟨u, hu⟩ : ∃ u, getV H t k = u := ⟨_, rfl⟩
 obtain ⟨o, hw⟩ : ∃ o, getW H t k = o := ⟨_, rfl⟩
 simp only [hu, hw] at cG
 clear hu hw
 obtain ⟨uk, un, us⟩ := u
 have HI := Lib.hid h
 clear h hlen hk
 go_enter Tryz.func20, Tryz.ntmps20
 go_wp2_with fail
 refine (cG _ (((HI.out.alloc _).alloc _).alloc _)).mono ?_
 rintro e w1 ⟨rfl, e1⟩
 have k1 := ((((Ext.refl w).alloc _).alloc _).alloc _).trans e1
 obtain ⟨z1, z2, z3⟩ := e1.lt3
 obtain ⟨p1, p2⟩ := e1.cells
 clear cG
 go_wp2_with fail
 refine (checkV _ false hv _).mono ?_
 rintro e w2 ⟨rfl, e2⟩
 have k2 := (k1.alloc _).trans e2
 have y1 := e2.lt1
 have y2 : w.heap.size < w2.heap.size := by omega
 have y3 : w.heap.size + 1 < w2.heap.size := by omega
 have y4 : w.heap.size + 2 < w2.heap.size := by omega
 obtain ⟨q1, q2⟩ := e2.cells
 clear e1 e2
 go_wp2_with fail
 go_ret
 exact ⟨rfl, by repeat (first | exact k2 | refine Ext.alloc ?_ _ | refine Ext.setCell ?_ (by simp <;> omega) _)⟩
set_option maxRecDepth 100000 in
theorem set_why (g : Nat) (tv : Value) (rs : List (Nat × Nat)) (H : Hp) (t k v : Vl) (w : World) (h : HeapIn w g tv rs H) (hlen : H.tabs.length ≤ 9223372036854775807) (hk : in64 k.n) (hv : v.ck = true) (hn : ¬ (getW H t k).toList = []) :
  Calls Tryz.prog 20 #[.pointer (some ⟨g, 0, none⟩), t.v, k.v, v.v] w fun e w' => e = .returned (.string (getW H t k)) ∧ Ext w w' := by
 have cG := fun W hW => get_any g tv rs H t k W hW hlen hk
 obtain ⟨u, hu⟩ : ∃ u, getV H t k = u := ⟨_, rfl⟩
 simp only [hu] at cG
 clear hu
 obtain ⟨uk, un, us⟩ := u
 have hn' : (getW H t k).toList.isEmpty = false := by simpa using hn
 generalize getW H t k = o at *
 have HI := Lib.hid h
 clear h hlen hk
 go_enter Tryz.func20, Tryz.ntmps20
 go_wp2_with fail
 refine (cG _ (((HI.out.alloc _).alloc _).alloc _)).mono ?_
 rintro e w1 ⟨rfl, e1⟩
 have k1 := ((((Ext.refl w).alloc _).alloc _).alloc _).trans e1
 obtain ⟨z1, z2, z3⟩ := e1.lt3
 obtain ⟨p1, p2⟩ := e1.cells
 clear cG
 go_wp2_with fail
 refine (checkV _ true hv _).mono ?_
 rintro e w2 ⟨rfl, e2⟩
 have k2 := (k1.alloc _).trans e2
 have y1 := e2.lt1
 have y2 : w.heap.size < w2.heap.size := by omega
 have y3 : w.heap.size + 1 < w2.heap.size := by omega
 have y4 : w.heap.size + 2 < w2.heap.size := by omega
 obtain ⟨q1, q2⟩ := e2.cells
 clear e1 e2
 go_wp2_with fail
 go_ret
 exact ⟨rfl, by repeat (first | exact k2 | refine Ext.alloc ?_ _ | refine Ext.setCell ?_ (by simp <;> omega) _)⟩
theorem setH_fresh {H : Hp} {t k v : Vl} (hv : v.ck = true) (hn : getW H t k = sNone) (hf : (getV H t k).k = 0) (h0 : ¬ v.k = 0) (hl : (tabOf H t).length < 65536) (hm : 1 ≤ H.cells - H.spent) :
  setW H t k v = sNone ∧ setH H t k v = ⟨H.tabs.set t.n.toNat (tput (tabOf H t) k v), H.cells, H.spent + 1⟩ := by
 have hb : freshB H t k v = true := by unfold freshB; simp [hf, h0]
 have e : setW H t k v = sNone := by unfold setW; rw [if_pos hv, if_pos hn, if_pos hb, if_neg (by omega), if_pos hm]
 exact ⟨e, by unfold setH; rw [if_pos e, if_pos hb]⟩
theorem setH_old {H : Hp} {t k v : Vl} (hv : v.ck = true) (hn : getW H t k = sNone) (hb : freshB H t k v = false) :
  setW H t k v = sNone ∧ setH H t k v = ⟨H.tabs.set t.n.toNat (tput (tabOf H t) k v), H.cells, H.spent⟩ := by
 have e : setW H t k v = sNone := by unfold setW; rw [if_pos hv, if_pos hn, if_neg (by rw [hb]; decide)]
 exact ⟨e, by unfold setH; rw [if_pos e, if_neg (by rw [hb]; decide)]⟩
theorem setH_no {H : Hp} {t k v : Vl} (h : ¬ setW H t k v = sNone) : setH H t k v = H := by unfold setH; rw [if_neg h]
set_option maxRecDepth 100000 in
theorem set_long (g : Nat) (tv : Value) (rs : List (Nat × Nat)) (H : Hp) (t k v : Vl) (w : World) (h : HeapIn w g tv rs H) (hlen : H.tabs.length ≤ 9223372036854775807) (hk : in64 k.n) (hv : v.ck = true) (hn : getW H t k = sNone) (hf : (getV H t k).k = 0) (h0 : ¬ v.k = 0) (hl : 65536 ≤ (tabOf H t).length) :
  Calls Tryz.prog 20 #[.pointer (some ⟨g, 0, none⟩), t.v, k.v, v.v] w fun e w' => e = .returned (.string sLong) ∧ Ext w w' := by
 have cG := fun W hW => get_any g tv rs H t k W hW hlen hk
 obtain ⟨g1, g2, g3⟩ := getW_none hn
 obtain ⟨x, y, hxy, ho⟩ := of_any g tv rs H t h.len hlen
 obtain ⟨r, hr, rfl, rfl⟩ := hxy g2
 obtain ⟨o1, o2, o3, o4, o5⟩ := ofW_none g2
 have HT := Lib.hid (tabOf_get o5)
 have HR := Lib.hid hr
 have hOK := h.ok
 have hTb := tabOf_ok hOK o5
 have hmost := hTb.most
 have HTb := Lib.hid hTb
 have hs0 := sNone_list
 have hs1 : sNone.toList.isEmpty = true := by rw [hs0]; rfl
 have b1 := hOK.low
 have b2 := hOK.le
 have b3 := hOK.most
 have HK := Lib.hid (kOk_of hn hk)
 obtain ⟨u, hu⟩ : ∃ u, getV H t k = u := ⟨_, rfl⟩
 rw [hu] at hf
 simp only [hu, hn] at cG
 rw [g2] at ho
 have HU := Lib.hid hu
 have HN := Lib.hid hn
 clear hxy hr g1 g2 g3 hu hn o1 o2 o3 o4 o5 hOK hTb
 obtain ⟨uk, un, us⟩ := u
 simp only at hf
 subst hf
 have h0' : (v.k != 0) = true := by simpa using h0
 clear h0
 have HI := Lib.hid h
 clear h hlen hk
 go_enter Tryz.func20, Tryz.ntmps20
 go_wp2_with fail
 refine (cG _ (((HI.out.alloc _).alloc _).alloc _)).mono ?_
 rintro e w1 ⟨rfl, e1⟩
 have k1 := ((((Ext.refl w).alloc _).alloc _).alloc _).trans e1
 obtain ⟨z1, z2, z3⟩ := e1.lt3
 obtain ⟨p1, p2⟩ := e1.cells
 clear cG
 go_wp2_with fail
 refine (checkV _ true hv _).mono ?_
 rintro e w2 ⟨rfl, e2⟩
 have k2 := (k1.alloc _).trans e2
 have y1 := e2.lt1
 have y2 : w.heap.size < w2.heap.size := by omega
 have y3 : w.heap.size + 1 < w2.heap.size := by omega
 have y4 : w.heap.size + 2 < w2.heap.size := by omega
 obtain ⟨q1, q2⟩ := e2.cells
 clear e1 e2
 go_wp2_with fail
 refine (ho _ (HI.out.ext k2)).mono ?_
 rintro e w3 ⟨rfl, e3⟩
 have k3 := k2.trans e3
 have j1 : w1.heap.size < w3.heap.size := by have := e3.le; omega
 have j2 : w.heap.size < w3.heap.size := by omega
 have j3 : w.heap.size + 1 < w3.heap.size := by omega
 have j4 : w.heap.size + 2 < w3.heap.size := by omega
 obtain ⟨r1, r2⟩ := e3.cells
 clear ho e3
 have k4 := k3.alloc (.cells #[.map (some r.1), .map (some r.2)] 75)
 obtain ⟨mi, mt, him, hmt, hrep⟩ := (HI.out.ext k4).tabs _ _ _ HR.out HT.out
 have hcount := hrep.count
 have hl3 : (65536 : Int) ≤ (mi.length : Int) + (mt.length : Int) := by omega
 have hl4 : (mi.length : Int) + (mt.length : Int) ≤ 65536 := by omega
 have hl1 : (mmap Vl.v mi).length = mi.length := by simp [mmap]
 have hl2 : (mmap Vl.v mt).length = mt.length := by simp [mmap]
 clear hrep hcount hmost hl
 go_wp2_with (first
  | (with_reducible refine wpList_mlen rfl (.tmp 45) _ rfl Tryz.underlying72 r.1 rfl him ?_)
  | (with_reducible refine wpList_mlen rfl (.tmp 48) _ rfl Tryz.underlying73 r.2 rfl hmt ?_))
 go_ret
 exact ⟨rfl, k4⟩
set_option maxRecDepth 100000 in
theorem set_mem (g : Nat) (tv : Value) (rs : List (Nat × Nat)) (H : Hp) (t k v : Vl) (w : World) (h : HeapIn w g tv rs H) (hlen : H.tabs.length ≤ 9223372036854775807) (hk : in64 k.n) (hv : v.ck = true) (hn : getW H t k = sNone) (hf : (getV H t k).k = 0) (h0 : ¬ v.k = 0) (hl : (tabOf H t).length < 65536) (hm : ¬ 1 ≤ H.cells - H.spent) :
  Calls Tryz.prog 20 #[.pointer (some ⟨g, 0, none⟩), t.v, k.v, v.v] w fun e w' => e = .returned (.string sMemory) ∧ HeapIn w' g tv rs H ∧ Touch (Foot g tv rs) w w' := by
 have cG := fun W hW => get_any g tv rs H t k W hW hlen hk
 obtain ⟨g1, g2, g3⟩ := getW_none hn
 obtain ⟨x, y, hxy, ho⟩ := of_any g tv rs H t h.len hlen
 obtain ⟨r, hr, rfl, rfl⟩ := hxy g2
 obtain ⟨o1, o2, o3, o4, o5⟩ := ofW_none g2
 have HT := Lib.hid (tabOf_get o5)
 have HR := Lib.hid hr
 have hOK := h.ok
 have hTb := tabOf_ok hOK o5
 have hmost := hTb.most
 have HTb := Lib.hid hTb
 have hs0 := sNone_list
 have hs1 : sNone.toList.isEmpty = true := by rw [hs0]; rfl
 have b1 := hOK.low
 have b2 := hOK.le
 have b3 := hOK.most
 have HK := Lib.hid (kOk_of hn hk)
 obtain ⟨u, hu⟩ : ∃ u, getV H t k = u := ⟨_, rfl⟩
 rw [hu] at hf
 simp only [hu, hn] at cG
 rw [g2] at ho
 have HU := Lib.hid hu
 have HN := Lib.hid hn
 clear hxy hr g1 g2 g3 hu hn o1 o2 o3 o4 o5 hOK hTb
 obtain ⟨uk, un, us⟩ := u
 simp only at hf
 subst hf
 have h0' : (v.k != 0) = true := by simpa using h0
 clear h0
 have htk : tkB H.cells H.spent 1 = false := (tkB_no hm).symm
 have htc : tk H.cells H.spent 1 = H.spent := tk_no hm
 clear hm
 have HI := Lib.hid h
 clear h hlen hk
 go_enter Tryz.func20, Tryz.ntmps20
 go_wp2_with fail
 refine (cG _ (((HI.out.alloc _).alloc _).alloc _)).mono ?_
 rintro e w1 ⟨rfl, e1⟩
 have k1 := ((((Ext.refl w).alloc _).alloc _).alloc _).trans e1
 obtain ⟨z1, z2, z3⟩ := e1.lt3
 obtain ⟨p1, p2⟩ := e1.cells
 clear cG
 go_wp2_with fail
 refine (checkV _ true hv _).mono ?_
 rintro e w2 ⟨rfl, e2⟩
 have k2 := (k1.alloc _).trans e2
 have y1 := e2.lt1
 have y2 : w.heap.size < w2.heap.size := by omega
 have y3 : w.heap.size + 1 < w2.heap.size := by omega
 have y4 : w.heap.size + 2 < w2.heap.size := by omega
 obtain ⟨q1, q2⟩ := e2.cells
 clear e1 e2
 go_wp2_with fail
 refine (ho _ (HI.out.ext k2)).mono ?_
 rintro e w3 ⟨rfl, e3⟩
 have k3 := k2.trans e3
 have j1 : w1.heap.size < w3.heap.size := by have := e3.le; omega
 have j2 : w.heap.size < w3.heap.size := by omega
 have j3 : w.heap.size + 1 < w3.heap.size := by omega
 have j4 : w.heap.size + 2 < w3.heap.size := by omega
 obtain ⟨r1, r2⟩ := e3.cells
 clear ho e3
 have k4 := k3.alloc (.cells #[.map (some r.1), .map (some r.2)] 75)
 obtain ⟨mi, mt, him, hmt, hrep⟩ := (HI.out.ext k4).tabs _ _ _ HR.out HT.out
 have hcount := hrep.count
 have hl3 : decide ((65536 : Int) ≤ (mi.length : Int) + (mt.length : Int)) = false := by rw [decide_eq_false_iff_not]; omega
 have hl4 : (mi.length : Int) + (mt.length : Int) ≤ 65535 := by omega
 have hl1 : (mmap Vl.v mi).length = mi.length := by simp [mmap]
 have hl2 : (mmap Vl.v mt).length = mt.length := by simp [mmap]
 have hg : g < w.heap.size := HI.out.head.lt
 have x1 : ¬ w.heap.size = g := by omega
 have x2 : ¬ w.heap.size + 1 = g := by omega
 have x3 : ¬ w.heap.size + 1 + 1 = g := by omega
 have x4 : ¬ w3.heap.size = g := by omega
 have H4 := Lib.hid (HI.out.ext k4)
 clear hrep hcount hmost hl
 go_wp2_with (first
  | (with_reducible refine wpList_mlen rfl (.tmp 45) _ rfl Tryz.underlying72 r.1 rfl him ?_)
  | (with_reducible refine wpList_mlen rfl (.tmp 48) _ rfl Tryz.underlying73 r.2 rfl hmt ?_))
 refine (take_any g tv H.cells H.spent 1 _ H4.out.head b1 b2 b3 (by omega) (by omega)).mono ?_
 rintro e w5 ⟨rfl, ho5, hb5⟩
 have j5 := ho5.lt1
 have j6 : w.heap.size < w5.heap.size := by omega
 have j7 : w.heap.size + 1 < w5.heap.size := by omega
 have j8 : w.heap.size + 2 < w5.heap.size := by omega
 obtain ⟨s1, s2⟩ := ho5.cells
 rw [htc] at hb5
 have H5 := Lib.hid (H4.out.only ho5 _ _ hb5 b1 b2 b3)
 have HT5 := Lib.hid ((Touch.of_ext k4).trans (Touch.only (F := Foot g tv rs) ho5 (.inl rfl)))
 clear ho5 hb5 htc
 go_wp2_with fail
 go_ret
 exact ⟨rfl, H5.out, HT5.out⟩
set_option maxRecDepth 100000 in
theorem set_new_int (g : Nat) (tv : Value) (rs : List (Nat × Nat)) (H : Hp) (t k v : Vl) (w : World) (h : HeapIn w g tv rs H) (hlen : H.tabs.length ≤ 9223372036854775807) (hk : in64 k.n) (hv : v.ck = true) (hn : getW H t k = sNone) (hf : (getV H t k).k = 0) (h0 : ¬ v.k = 0) (hl : (tabOf H t).length < 65536) (hm : 1 ≤ H.cells - H.spent) (h2 : k.k = 2) (hvn : in64 v.n) :
  Calls Tryz.prog 20 #[.pointer (some ⟨g, 0, none⟩), t.v, k.v, v.v] w fun e w' => e = .returned (.string sNone) ∧ HeapIn w' g tv rs (setH H t k v) ∧ Touch (Foot g tv rs) w w' := by
 have cG := fun W hW => get_any g tv rs H t k W hW hlen hk
 have HS := Lib.hid (setH_fresh hv hn hf h0 hl hm).2
 have HP := Lib.hid ((tabOf_ok h.ok (ofW_none (getW_none hn).2.1).2.2.2.2).put (kOk_of hn hk) hv hvn (fun _ _ => hl))
 have HF := Lib.hid (KOk.form (kOk_of hn hk))
 obtain ⟨g1, g2, g3⟩ := getW_none hn
 obtain ⟨x, y, hxy, ho⟩ := of_any g tv rs H t h.len hlen
 obtain ⟨r, hr, rfl, rfl⟩ := hxy g2
 obtain ⟨o1, o2, o3, o4, o5⟩ := ofW_none g2
 have HT := Lib.hid (tabOf_get o5)
 have HR := Lib.hid hr
 have hOK := h.ok
 have hTb := tabOf_ok hOK o5
 have hmost := hTb.most
 have HTb := Lib.hid hTb
 have hs0 := sNone_list
 have hs1 : sNone.toList.isEmpty = true := by rw [hs0]; rfl
 have b1 := hOK.low
 have b2 := hOK.le
 have b3 := hOK.most
 have HK := Lib.hid (kOk_of hn hk)
 obtain ⟨u, hu⟩ : ∃ u, getV H t k = u := ⟨_, rfl⟩
 rw [hu] at hf
 simp only [hu, hn] at cG
 rw [g2] at ho
 have HU := Lib.hid hu
 have HN := Lib.hid hn
 clear hxy hr g1 g2 g3 hu hn o1 o2 o3 o4 o5 hOK hTb
 obtain ⟨uk, un, us⟩ := u
 simp only at hf
 subst hf
 have h0' : (v.k != 0) = true := by simpa using h0
 clear h0
 obtain ⟨kk, kn, ks⟩ := k
 simp only at h2
 subst h2
 have htk : tkB H.cells H.spent 1 = true := (tkB_yes hm).symm
 have htc : tk H.cells H.spent 1 = H.spent + 1 := tk_yes hm
 have hm' : H.spent + 1 ≤ H.cells := by omega
 clear hm hvn
 have HE : Hid ((⟨2, kn, ks⟩ : Vl) = iK kn) := Lib.hid (by
  rcases HF.out with ⟨e, h⟩ | ⟨e, h⟩
  ·exact h
  ·cases e)
 have HI := Lib.hid h
 clear h hlen hk
 go_enter Tryz.func20, Tryz.ntmps20
 go_wp2_with fail
 refine (cG _ (((HI.out.alloc _).alloc _).alloc _)).mono ?_
 rintro e w1 ⟨rfl, e1⟩
 have k1 := ((((Ext.refl w).alloc _).alloc _).alloc _).trans e1
 obtain ⟨z1, z2, z3⟩ := e1.lt3
 obtain ⟨p1, p2⟩ := e1.cells
 clear cG
 go_wp2_with fail
 refine (checkV _ true hv _).mono ?_
 rintro e w2 ⟨rfl, e2⟩
 have k2 := (k1.alloc _).trans e2
 have y1 := e2.lt1
 have y2 : w.heap.size < w2.heap.size := by omega
 have y3 : w.heap.size + 1 < w2.heap.size := by omega
 have y4 : w.heap.size + 2 < w2.heap.size := by omega
 obtain ⟨q1, q2⟩ := e2.cells
 clear e1 e2
 go_wp2_with fail
 refine (ho _ (HI.out.ext k2)).mono ?_
 rintro e w3 ⟨rfl, e3⟩
 have k3 := k2.trans e3
 have j1 : w1.heap.size < w3.heap.size := by have := e3.le; omega
 have j2 : w.heap.size < w3.heap.size := by omega
 have j3 : w.heap.size + 1 < w3.heap.size := by omega
 have j4 : w.heap.size + 2 < w3.heap.size := by omega
 obtain ⟨r1, r2⟩ := e3.cells
 clear ho e3
 have k4 := k3.alloc (.cells #[.map (some r.1), .map (some r.2)] 75)
 obtain ⟨mi, mt, him, hmt, hrep⟩ := (HI.out.ext k4).tabs _ _ _ HR.out HT.out
 have hcount := hrep.count
 have hl3 : decide ((65536 : Int) ≤ (mi.length : Int) + (mt.length : Int)) = false := by rw [decide_eq_false_iff_not]; omega
 have hl4 : (mi.length : Int) + (mt.length : Int) ≤ 65535 := by omega
 have hl1 : (mmap Vl.v mi).length = mi.length := by simp [mmap]
 have hl2 : (mmap Vl.v mt).length = mt.length := by simp [mmap]
 have hg : g < w.heap.size := HI.out.head.lt
 have x1 : ¬ w.heap.size = g := by omega
 have x2 : ¬ w.heap.size + 1 = g := by omega
 have x3 : ¬ w.heap.size + 1 + 1 = g := by omega
 have x4 : ¬ w3.heap.size = g := by omega
 have H4 := Lib.hid (HI.out.ext k4)
 clear hrep hcount hmost hl
 go_wp2_with (first
  | (with_reducible refine wpList_mlen rfl (.tmp 45) _ rfl Tryz.underlying72 r.1 rfl him ?_)
  | (with_reducible refine wpList_mlen rfl (.tmp 48) _ rfl Tryz.underlying73 r.2 rfl hmt ?_))
 refine (take_any g tv H.cells H.spent 1 _ H4.out.head b1 b2 b3 (by omega) (by omega)).mono ?_
 rintro e w5 ⟨rfl, ho5, hb5⟩
 have j5 := ho5.lt1
 have j6 : w.heap.size < w5.heap.size := by omega
 have j7 : w.heap.size + 1 < w5.heap.size := by omega
 have j8 : w.heap.size + 2 < w5.heap.size := by omega
 obtain ⟨s1, s2⟩ := ho5.cells
 rw [htc] at hb5
 have H5 := Lib.hid (H4.out.only ho5 _ _ hb5 (by omega) hm' b3)
 have HT5 := Lib.hid ((Touch.of_ext k4).trans (Touch.only (F := Foot g tv rs) ho5 (.inl rfl)))
 clear ho5 hb5 htc him hmt
 obtain ⟨mi, mt, him, hmt, hrep⟩ := H5.out.tabs _ _ _ HR.out HT.out
 go_wp2_with fail
 refine (puti_any r.1 mi kn v _ him).mono ?_
 rintro e w6 ⟨rfl, m6, t6⟩
 have H6 := Lib.hid (H5.out.puti HR.out HT.out hmt hrep kn v m6 t6 (by rw [← HE.out]; exact HP.out))
 have HT6 := Lib.hid (HT5.out.trans (Touch.mono t6 (fun x hx => by subst hx; exact .inr (.inr (List.mem_flatMap.2 ⟨r, List.mem_of_getElem? HR.out, by simp⟩)))))
 clear m6 t6 him hmt hrep
 go_wp2_with fail
 go_ret
 refine ⟨rfl, ?_, HT6.out⟩
 rw [HS.out, HE.out]
 exact H6.out
set_option maxRecDepth 100000 in
theorem set_olda_int (g : Nat) (tv : Value) (rs : List (Nat × Nat)) (H : Hp) (t k v : Vl) (w : World) (h : HeapIn w g tv rs H) (hlen : H.tabs.length ≤ 9223372036854775807) (hk : in64 k.n) (hv : v.ck = true) (hn : getW H t k = sNone) (hf : ¬ (getV H t k).k = 0) (h2 : k.k = 2) (hvn : in64 v.n) :
  Calls Tryz.prog 20 #[.pointer (some ⟨g, 0, none⟩), t.v, k.v, v.v] w fun e w' => e = .returned (.string sNone) ∧ HeapIn w' g tv rs (setH H t k v) ∧ Touch (Foot g tv rs) w w' := by
 have cG := fun W hW => get_any g tv rs H t k W hW hlen hk
 have HS := Lib.hid (setH_old hv hn (by unfold freshB; simp [hf])).2
 have HP := Lib.hid ((tabOf_ok h.ok (ofW_none (getW_none hn).2.1).2.2.2.2).put (kOk_of hn hk) hv hvn (fun hz hz' => by
  have e : getV H t k = tget (tabOf H t) k := by unfold getV; rw [if_pos hn]
  rw [← e] at hz
  exact absurd hz hf))
 have HF := Lib.hid (KOk.form (kOk_of hn hk))
 obtain ⟨g1, g2, g3⟩ := getW_none hn
 obtain ⟨x, y, hxy, ho⟩ := of_any g tv rs H t h.len hlen
 obtain ⟨r, hr, rfl, rfl⟩ := hxy g2
 obtain ⟨o1, o2, o3, o4, o5⟩ := ofW_none g2
 have HT := Lib.hid (tabOf_get o5)
 have HR := Lib.hid hr
 have hOK := h.ok
 have hTb := tabOf_ok hOK o5
 have hmost := hTb.most
 have HTb := Lib.hid hTb
 have hs0 := sNone_list
 have hs1 : sNone.toList.isEmpty = true := by rw [hs0]; rfl
 have b1 := hOK.low
 have b2 := hOK.le
 have b3 := hOK.most
 have HK := Lib.hid (kOk_of hn hk)
 obtain ⟨u, hu⟩ : ∃ u, getV H t k = u := ⟨_, rfl⟩
 rw [hu] at hf
 simp only [hu, hn] at cG
 rw [g2] at ho
 have HU := Lib.hid hu
 have HN := Lib.hid hn
 clear hxy hr g1 g2 g3 hu hn o1 o2 o3 o4 o5 hOK hTb
 obtain ⟨uk, un, us⟩ := u
 simp only at hf
 have hf' : (uk == 0) = false := by simpa using hf
 clear hf
 obtain ⟨kk, kn, ks⟩ := k
 simp only at h2
 subst h2
 have HE : Hid ((⟨2, kn, ks⟩ : Vl) = iK kn) := Lib.hid (by
  rcases HF.out with ⟨e, h⟩ | ⟨e, h⟩
  ·exact h
  ·cases e)
 clear hvn hmost
 have HI := Lib.hid h
 clear h hlen hk
 go_enter Tryz.func20, Tryz.ntmps20
 go_wp2_with fail
 refine (cG _ (((HI.out.alloc _).alloc _).alloc _)).mono ?_
 rintro e w1 ⟨rfl, e1⟩
 have k1 := ((((Ext.refl w).alloc _).alloc _).alloc _).trans e1
 obtain ⟨z1, z2, z3⟩ := e1.lt3
 obtain ⟨p1, p2⟩ := e1.cells
 clear cG
 go_wp2_with fail
 refine (checkV _ true hv _).mono ?_
 rintro e w2 ⟨rfl, e2⟩
 have k2 := (k1.alloc _).trans e2
 have y1 := e2.lt1
 have y2 : w.heap.size < w2.heap.size := by omega
 have y3 : w.heap.size + 1 < w2.heap.size := by omega
 have y4 : w.heap.size + 2 < w2.heap.size := by omega
 obtain ⟨q1, q2⟩ := e2.cells
 clear e1 e2
 go_wp2_with fail
 refine (ho _ (HI.out.ext k2)).mono ?_
 rintro e w3 ⟨rfl, e3⟩
 have k3 := k2.trans e3
 have j1 : w1.heap.size < w3.heap.size := by have := e3.le; omega
 have j2 : w.heap.size < w3.heap.size := by omega
 have j3 : w.heap.size + 1 < w3.heap.size := by omega
 have j4 : w.heap.size + 2 < w3.heap.size := by omega
 obtain ⟨r1, r2⟩ := e3.cells
 clear ho e3
 have k4 := k3.alloc (.cells #[.map (some r.1), .map (some r.2)] 75)
 have H4 := Lib.hid (HI.out.ext k4)
 have HT4 := Lib.hid (Touch.of_ext (F := Foot g tv rs) k4)
 obtain ⟨mi, mt, him, hmt, hrep⟩ := H4.out.tabs _ _ _ HR.out HT.out
 go_wp2_with fail
 refine (puti_any r.1 mi kn v _ him).mono ?_
 rintro e w6 ⟨rfl, m6, t6⟩
 have H6 := Lib.hid (H4.out.puti HR.out HT.out hmt hrep kn v m6 t6 (by rw [← HE.out]; exact HP.out))
 have HT6 := Lib.hid (HT4.out.trans (Touch.mono t6 (fun x hx => by subst hx; exact .inr (.inr (List.mem_flatMap.2 ⟨r, List.mem_of_getElem? HR.out, by simp⟩)))))
 clear m6 t6 him hmt hrep
 go_wp2_with fail
 go_ret
 refine ⟨rfl, ?_, HT6.out⟩
 rw [HS.out, HE.out]
 exact H6.out
set_option maxRecDepth 100000 in
theorem set_oldb_int (g : Nat) (tv : Value) (rs : List (Nat × Nat)) (H : Hp) (t k v : Vl) (w : World) (h : HeapIn w g tv rs H) (hlen : H.tabs.length ≤ 9223372036854775807) (hk : in64 k.n) (hv : v.ck = true) (hn : getW H t k = sNone) (hf : (getV H t k).k = 0) (h0 : v.k = 0) (h2 : k.k = 2) (hvn : in64 v.n) :
  Calls Tryz.prog 20 #[.pointer (some ⟨g, 0, none⟩), t.v, k.v, v.v] w fun e w' => e = .returned (.string sNone) ∧ HeapIn w' g tv rs (setH H t k v) ∧ Touch (Foot g tv rs) w w' := by
 have cG := fun W hW => get_any g tv rs H t k W hW hlen hk
 have HS := Lib.hid (setH_old hv hn (by unfold freshB; simp [h0])).2
 have HP := Lib.hid ((tabOf_ok h.ok (ofW_none (getW_none hn).2.1).2.2.2.2).put (kOk_of hn hk) hv hvn (fun hz hz' => by
  have e : getV H t k = tget (tabOf H t) k := by unfold getV; rw [if_pos hn]
  rw [← e] at hz
  exact absurd h0 hz'))
 have HF := Lib.hid (KOk.form (kOk_of hn hk))
 obtain ⟨g1, g2, g3⟩ := getW_none hn
 obtain ⟨x, y, hxy, ho⟩ := of_any g tv rs H t h.len hlen
 obtain ⟨r, hr, rfl, rfl⟩ := hxy g2
 obtain ⟨o1, o2, o3, o4, o5⟩ := ofW_none g2
 have HT := Lib.hid (tabOf_get o5)
 have HR := Lib.hid hr
 have hOK := h.ok
 have hTb := tabOf_ok hOK o5
 have hmost := hTb.most
 have HTb := Lib.hid hTb
 have hs0 := sNone_list
 have hs1 : sNone.toList.isEmpty = true := by rw [hs0]; rfl
 have b1 := hOK.low
 have b2 := hOK.le
 have b3 := hOK.most
 have HK := Lib.hid (kOk_of hn hk)
 obtain ⟨u, hu⟩ : ∃ u, getV H t k = u := ⟨_, rfl⟩
 rw [hu] at hf
 simp only [hu, hn] at cG
 rw [g2] at ho
 have HU := Lib.hid hu
 have HN := Lib.hid hn
 clear hxy hr g1 g2 g3 hu hn o1 o2 o3 o4 o5 hOK hTb
 obtain ⟨uk, un, us⟩ := u
 simp only at hf
 subst hf
 have h0' : (v.k != 0) = false := by simp [h0]
 clear h0
 obtain ⟨kk, kn, ks⟩ := k
 simp only at h2
 subst h2
 have HE : Hid ((⟨2, kn, ks⟩ : Vl) = iK kn) := Lib.hid (by
  rcases HF.out with ⟨e, h⟩ | ⟨e, h⟩
  ·exact h
  ·cases e)
 clear hvn hmost
 have HI := Lib.hid h
 clear h hlen hk
 go_enter Tryz.func20, Tryz.ntmps20
 go_wp2_with fail
 refine (cG _ (((HI.out.alloc _).alloc _).alloc _)).mono ?_
 rintro e w1 ⟨rfl, e1⟩
 have k1 := ((((Ext.refl w).alloc _).alloc _).alloc _).trans e1
 obtain ⟨z1, z2, z3⟩ := e1.lt3
 obtain ⟨p1, p2⟩ := e1.cells
 clear cG
 go_wp2_with fail
 refine (checkV _ true hv _).mono ?_
 rintro e w2 ⟨rfl, e2⟩
 have k2 := (k1.alloc _).trans e2
 have y1 := e2.lt1
 have y2 : w.heap.size < w2.heap.size := by omega
 have y3 : w.heap.size + 1 < w2.heap.size := by omega
 have y4 : w.heap.size + 2 < w2.heap.size := by omega
 obtain ⟨q1, q2⟩ := e2.cells
 clear e1 e2
 go_wp2_with fail
 refine (ho _ (HI.out.ext k2)).mono ?_
 rintro e w3 ⟨rfl, e3⟩
 have k3 := k2.trans e3
 have j1 : w1.heap.size < w3.heap.size := by have := e3.le; omega
 have j2 : w.heap.size < w3.heap.size := by omega
 have j3 : w.heap.size + 1 < w3.heap.size := by omega
 have j4 : w.heap.size + 2 < w3.heap.size := by omega
 obtain ⟨r1, r2⟩ := e3.cells
 clear ho e3
 have k4 := k3.alloc (.cells #[.map (some r.1), .map (some r.2)] 75)
 have H4 := Lib.hid (HI.out.ext k4)
 have HT4 := Lib.hid (Touch.of_ext (F := Foot g tv rs) k4)
 obtain ⟨mi, mt, him, hmt, hrep⟩ := H4.out.tabs _ _ _ HR.out HT.out
 go_wp2_with fail
 refine (puti_any r.1 mi kn v _ him).mono ?_
 rintro e w6 ⟨rfl, m6, t6⟩
 have H6 := Lib.hid (H4.out.puti HR.out HT.out hmt hrep kn v m6 t6 (by rw [← HE.out]; exact HP.out))
 have HT6 := Lib.hid (HT4.out.trans (Touch.mono t6 (fun x hx => by subst hx; exact .inr (.inr (List.mem_flatMap.2 ⟨r, List.mem_of_getElem? HR.out, by simp⟩)))))
 clear m6 t6 him hmt hrep
 go_wp2_with fail
 go_ret
 refine ⟨rfl, ?_, HT6.out⟩
 rw [HS.out, HE.out]
 exact H6.out
set_option maxRecDepth 100000 in
theorem set_new_text (g : Nat) (tv : Value) (rs : List (Nat × Nat)) (H : Hp) (t k v : Vl) (w : World) (h : HeapIn w g tv rs H) (hlen : H.tabs.length ≤ 9223372036854775807) (hk : in64 k.n) (hv : v.ck = true) (hn : getW H t k = sNone) (hf : (getV H t k).k = 0) (h0 : ¬ v.k = 0) (hl : (tabOf H t).length < 65536) (hm : 1 ≤ H.cells - H.spent) (h2 : k.k = 3) (hvn : in64 v.n) :
  Calls Tryz.prog 20 #[.pointer (some ⟨g, 0, none⟩), t.v, k.v, v.v] w fun e w' => e = .returned (.string sNone) ∧ HeapIn w' g tv rs (setH H t k v) ∧ Touch (Foot g tv rs) w w' := by
 have cG := fun W hW => get_any g tv rs H t k W hW hlen hk
 have HS := Lib.hid (setH_fresh hv hn hf h0 hl hm).2
 have HP := Lib.hid ((tabOf_ok h.ok (ofW_none (getW_none hn).2.1).2.2.2.2).put (kOk_of hn hk) hv hvn (fun _ _ => hl))
 have HF := Lib.hid (KOk.form (kOk_of hn hk))
 obtain ⟨g1, g2, g3⟩ := getW_none hn
 obtain ⟨x, y, hxy, ho⟩ := of_any g tv rs H t h.len hlen
 obtain ⟨r, hr, rfl, rfl⟩ := hxy g2
 obtain ⟨o1, o2, o3, o4, o5⟩ := ofW_none g2
 have HT := Lib.hid (tabOf_get o5)
 have HR := Lib.hid hr
 have hOK := h.ok
 have hTb := tabOf_ok hOK o5
 have hmost := hTb.most
 have HTb := Lib.hid hTb
 have hs0 := sNone_list
 have hs1 : sNone.toList.isEmpty = true := by rw [hs0]; rfl
 have b1 := hOK.low
 have b2 := hOK.le
 have b3 := hOK.most
 have HK := Lib.hid (kOk_of hn hk)
 obtain ⟨u, hu⟩ : ∃ u, getV H t k = u := ⟨_, rfl⟩
 rw [hu] at hf
 simp only [hu, hn] at cG
 rw [g2] at ho
 have HU := Lib.hid hu
 have HN := Lib.hid hn
 clear hxy hr g1 g2 g3 hu hn o1 o2 o3 o4 o5 hOK hTb
 obtain ⟨uk, un, us⟩ := u
 simp only at hf
 subst hf
 have h0' : (v.k != 0) = true := by simpa using h0
 clear h0
 obtain ⟨kk, kn, ks⟩ := k
 simp only at h2
 subst h2
 have hk3 : ((3 : Int) == 2) = false := rfl
 have htk : tkB H.cells H.spent 1 = true := (tkB_yes hm).symm
 have htc : tk H.cells H.spent 1 = H.spent + 1 := tk_yes hm
 have hm' : H.spent + 1 ≤ H.cells := by omega
 clear hm hvn
 have HE : Hid ((⟨3, kn, ks⟩ : Vl) = tK ks) := Lib.hid (by
  rcases HF.out with ⟨e, h⟩ | ⟨e, h⟩
  ·cases e
  ·exact h)
 have HI := Lib.hid h
 clear h hlen hk
 go_enter Tryz.func20, Tryz.ntmps20
 go_wp2_with fail
 refine (cG _ (((HI.out.alloc _).alloc _).alloc _)).mono ?_
 rintro e w1 ⟨rfl, e1⟩
 have k1 := ((((Ext.refl w).alloc _).alloc _).alloc _).trans e1
 obtain ⟨z1, z2, z3⟩ := e1.lt3
 obtain ⟨p1, p2⟩ := e1.cells
 clear cG
 go_wp2_with fail
 refine (checkV _ true hv _).mono ?_
 rintro e w2 ⟨rfl, e2⟩
 have k2 := (k1.alloc _).trans e2
 have y1 := e2.lt1
 have y2 : w.heap.size < w2.heap.size := by omega
 have y3 : w.heap.size + 1 < w2.heap.size := by omega
 have y4 : w.heap.size + 2 < w2.heap.size := by omega
 obtain ⟨q1, q2⟩ := e2.cells
 clear e1 e2
 go_wp2_with fail
 refine (ho _ (HI.out.ext k2)).mono ?_
 rintro e w3 ⟨rfl, e3⟩
 have k3 := k2.trans e3
 have j1 : w1.heap.size < w3.heap.size := by have := e3.le; omega
 have j2 : w.heap.size < w3.heap.size := by omega
 have j3 : w.heap.size + 1 < w3.heap.size := by omega
 have j4 : w.heap.size + 2 < w3.heap.size := by omega
 obtain ⟨r1, r2⟩ := e3.cells
 clear ho e3
 have k4 := k3.alloc (.cells #[.map (some r.1), .map (some r.2)] 75)
 obtain ⟨mi, mt, him, hmt, hrep⟩ := (HI.out.ext k4).tabs _ _ _ HR.out HT.out
 have hcount := hrep.count
 have hl3 : decide ((65536 : Int) ≤ (mi.length : Int) + (mt.length : Int)) = false := by rw [decide_eq_false_iff_not]; omega
 have hl4 : (mi.length : Int) + (mt.length : Int) ≤ 65535 := by omega
 have hl1 : (mmap Vl.v mi).length = mi.length := by simp [mmap]
 have hl2 : (mmap Vl.v mt).length = mt.length := by simp [mmap]
 have hg : g < w.heap.size := HI.out.head.lt
 have x1 : ¬ w.heap.size = g := by omega
 have x2 : ¬ w.heap.size + 1 = g := by omega
 have x3 : ¬ w.heap.size + 1 + 1 = g := by omega
 have x4 : ¬ w3.heap.size = g := by omega
 have H4 := Lib.hid (HI.out.ext k4)
 clear hrep hcount hmost hl
 go_wp2_with (first
  | (with_reducible refine wpList_mlen rfl (.tmp 45) _ rfl Tryz.underlying72 r.1 rfl him ?_)
  | (with_reducible refine wpList_mlen rfl (.tmp 48) _ rfl Tryz.underlying73 r.2 rfl hmt ?_))
 refine (take_any g tv H.cells H.spent 1 _ H4.out.head b1 b2 b3 (by omega) (by omega)).mono ?_
 rintro e w5 ⟨rfl, ho5, hb5⟩
 have j5 := ho5.lt1
 have j6 : w.heap.size < w5.heap.size := by omega
 have j7 : w.heap.size + 1 < w5.heap.size := by omega
 have j8 : w.heap.size + 2 < w5.heap.size := by omega
 obtain ⟨s1, s2⟩ := ho5.cells
 rw [htc] at hb5
 have H5 := Lib.hid (H4.out.only ho5 _ _ hb5 (by omega) hm' b3)
 have HT5 := Lib.hid ((Touch.of_ext k4).trans (Touch.only (F := Foot g tv rs) ho5 (.inl rfl)))
 clear ho5 hb5 htc him hmt
 obtain ⟨mi, mt, him, hmt, hrep⟩ := H5.out.tabs _ _ _ HR.out HT.out
 go_wp2_with fail
 refine (putt_any r.2 mt ks v _ hmt).mono ?_
 rintro e w6 ⟨rfl, m6, t6⟩
 have H6 := Lib.hid (H5.out.putt HR.out HT.out him hrep ks v m6 t6 (by rw [← HE.out]; exact HP.out))
 have HT6 := Lib.hid (HT5.out.trans (Touch.mono t6 (fun x hx => by subst hx; exact .inr (.inr (List.mem_flatMap.2 ⟨r, List.mem_of_getElem? HR.out, by simp⟩)))))
 clear m6 t6 him hmt hrep
 go_wp2_with fail
 go_ret
 refine ⟨rfl, ?_, HT6.out⟩
 rw [HS.out, HE.out]
 exact H6.out
set_option maxRecDepth 100000 in
theorem set_olda_text (g : Nat) (tv : Value) (rs : List (Nat × Nat)) (H : Hp) (t k v : Vl) (w : World) (h : HeapIn w g tv rs H) (hlen : H.tabs.length ≤ 9223372036854775807) (hk : in64 k.n) (hv : v.ck = true) (hn : getW H t k = sNone) (hf : ¬ (getV H t k).k = 0) (h2 : k.k = 3) (hvn : in64 v.n) :
  Calls Tryz.prog 20 #[.pointer (some ⟨g, 0, none⟩), t.v, k.v, v.v] w fun e w' => e = .returned (.string sNone) ∧ HeapIn w' g tv rs (setH H t k v) ∧ Touch (Foot g tv rs) w w' := by
 have cG := fun W hW => get_any g tv rs H t k W hW hlen hk
 have HS := Lib.hid (setH_old hv hn (by unfold freshB; simp [hf])).2
 have HP := Lib.hid ((tabOf_ok h.ok (ofW_none (getW_none hn).2.1).2.2.2.2).put (kOk_of hn hk) hv hvn (fun hz hz' => by
  have e : getV H t k = tget (tabOf H t) k := by unfold getV; rw [if_pos hn]
  rw [← e] at hz
  exact absurd hz hf))
 have HF := Lib.hid (KOk.form (kOk_of hn hk))
 obtain ⟨g1, g2, g3⟩ := getW_none hn
 obtain ⟨x, y, hxy, ho⟩ := of_any g tv rs H t h.len hlen
 obtain ⟨r, hr, rfl, rfl⟩ := hxy g2
 obtain ⟨o1, o2, o3, o4, o5⟩ := ofW_none g2
 have HT := Lib.hid (tabOf_get o5)
 have HR := Lib.hid hr
 have hOK := h.ok
 have hTb := tabOf_ok hOK o5
 have hmost := hTb.most
 have HTb := Lib.hid hTb
 have hs0 := sNone_list
 have hs1 : sNone.toList.isEmpty = true := by rw [hs0]; rfl
 have b1 := hOK.low
 have b2 := hOK.le
 have b3 := hOK.most
 have HK := Lib.hid (kOk_of hn hk)
 obtain ⟨u, hu⟩ : ∃ u, getV H t k = u := ⟨_, rfl⟩
 rw [hu] at hf
 simp only [hu, hn] at cG
 rw [g2] at ho
 have HU := Lib.hid hu
 have HN := Lib.hid hn
 clear hxy hr g1 g2 g3 hu hn o1 o2 o3 o4 o5 hOK hTb
 obtain ⟨uk, un, us⟩ := u
 simp only at hf
 have hf' : (uk == 0) = false := by simpa using hf
 clear hf
 obtain ⟨kk, kn, ks⟩ := k
 simp only at h2
 subst h2
 have hk3 : ((3 : Int) == 2) = false := rfl
 have HE : Hid ((⟨3, kn, ks⟩ : Vl) = tK ks) := Lib.hid (by
  rcases HF.out with ⟨e, h⟩ | ⟨e, h⟩
  ·cases e
  ·exact h)
 clear hvn hmost
 have HI := Lib.hid h
 clear h hlen hk
 go_enter Tryz.func20, Tryz.ntmps20
 go_wp2_with fail
 refine (cG _ (((HI.out.alloc _).alloc _).alloc _)).mono ?_
 rintro e w1 ⟨rfl, e1⟩
 have k1 := ((((Ext.refl w).alloc _).alloc _).alloc _).trans e1
 obtain ⟨z1, z2, z3⟩ := e1.lt3
 obtain ⟨p1, p2⟩ := e1.cells
 clear cG
 go_wp2_with fail
 refine (checkV _ true hv _).mono ?_
 rintro e w2 ⟨rfl, e2⟩
 have k2 := (k1.alloc _).trans e2
 have y1 := e2.lt1
 have y2 : w.heap.size < w2.heap.size := by omega
 have y3 : w.heap.size + 1 < w2.heap.size := by omega
 have y4 : w.heap.size + 2 < w2.heap.size := by omega
 obtain ⟨q1, q2⟩ := e2.cells
 clear e1 e2
 go_wp2_with fail
 refine (ho _ (HI.out.ext k2)).mono ?_
 rintro e w3 ⟨rfl, e3⟩
 have k3 := k2.trans e3
 have j1 : w1.heap.size < w3.heap.size := by have := e3.le; omega
 have j2 : w.heap.size < w3.heap.size := by omega
 have j3 : w.heap.size + 1 < w3.heap.size := by omega
 have j4 : w.heap.size + 2 < w3.heap.size := by omega
 obtain ⟨r1, r2⟩ := e3.cells
 clear ho e3
 have k4 := k3.alloc (.cells #[.map (some r.1), .map (some r.2)] 75)
 have H4 := Lib.hid (HI.out.ext k4)
 have HT4 := Lib.hid (Touch.of_ext (F := Foot g tv rs) k4)
 obtain ⟨mi, mt, him, hmt, hrep⟩ := H4.out.tabs _ _ _ HR.out HT.out
 go_wp2_with fail
 refine (putt_any r.2 mt ks v _ hmt).mono ?_
 rintro e w6 ⟨rfl, m6, t6⟩
 have H6 := Lib.hid (H4.out.putt HR.out HT.out him hrep ks v m6 t6 (by rw [← HE.out]; exact HP.out))
 have HT6 := Lib.hid (HT4.out.trans (Touch.mono t6 (fun x hx => by subst hx; exact .inr (.inr (List.mem_flatMap.2 ⟨r, List.mem_of_getElem? HR.out, by simp⟩)))))
 clear m6 t6 him hmt hrep
 go_wp2_with fail
 go_ret
 refine ⟨rfl, ?_, HT6.out⟩
 rw [HS.out, HE.out]
 exact H6.out
set_option maxRecDepth 100000 in
theorem set_oldb_text (g : Nat) (tv : Value) (rs : List (Nat × Nat)) (H : Hp) (t k v : Vl) (w : World) (h : HeapIn w g tv rs H) (hlen : H.tabs.length ≤ 9223372036854775807) (hk : in64 k.n) (hv : v.ck = true) (hn : getW H t k = sNone) (hf : (getV H t k).k = 0) (h0 : v.k = 0) (h2 : k.k = 3) (hvn : in64 v.n) :
  Calls Tryz.prog 20 #[.pointer (some ⟨g, 0, none⟩), t.v, k.v, v.v] w fun e w' => e = .returned (.string sNone) ∧ HeapIn w' g tv rs (setH H t k v) ∧ Touch (Foot g tv rs) w w' := by
 have cG := fun W hW => get_any g tv rs H t k W hW hlen hk
 have HS := Lib.hid (setH_old hv hn (by unfold freshB; simp [h0])).2
 have HP := Lib.hid ((tabOf_ok h.ok (ofW_none (getW_none hn).2.1).2.2.2.2).put (kOk_of hn hk) hv hvn (fun hz hz' => by
  have e : getV H t k = tget (tabOf H t) k := by unfold getV; rw [if_pos hn]
  rw [← e] at hz
  exact absurd h0 hz'))
 have HF := Lib.hid (KOk.form (kOk_of hn hk))
 obtain ⟨g1, g2, g3⟩ := getW_none hn
 obtain ⟨x, y, hxy, ho⟩ := of_any g tv rs H t h.len hlen
 obtain ⟨r, hr, rfl, rfl⟩ := hxy g2
 obtain ⟨o1, o2, o3, o4, o5⟩ := ofW_none g2
 have HT := Lib.hid (tabOf_get o5)
 have HR := Lib.hid hr
 have hOK := h.ok
 have hTb := tabOf_ok hOK o5
 have hmost := hTb.most
 have HTb := Lib.hid hTb
 have hs0 := sNone_list
 have hs1 : sNone.toList.isEmpty = true := by rw [hs0]; rfl
 have b1 := hOK.low
 have b2 := hOK.le
 have b3 := hOK.most
 have HK := Lib.hid (kOk_of hn hk)
 obtain ⟨u, hu⟩ : ∃ u, getV H t k = u := ⟨_, rfl⟩
 rw [hu] at hf
 simp only [hu, hn] at cG
 rw [g2] at ho
 have HU := Lib.hid hu
 have HN := Lib.hid hn
 clear hxy hr g1 g2 g3 hu hn o1 o2 o3 o4 o5 hOK hTb
 obtain ⟨uk, un, us⟩ := u
 simp only at hf
 subst hf
 have h0' : (v.k != 0) = false := by simp [h0]
 clear h0
 obtain ⟨kk, kn, ks⟩ := k
 simp only at h2
 subst h2
 have hk3 : ((3 : Int) == 2) = false := rfl
 have HE : Hid ((⟨3, kn, ks⟩ : Vl) = tK ks) := Lib.hid (by
  rcases HF.out with ⟨e, h⟩ | ⟨e, h⟩
  ·cases e
  ·exact h)
 clear hvn hmost
 have HI := Lib.hid h
 clear h hlen hk
 go_enter Tryz.func20, Tryz.ntmps20
 go_wp2_with fail
 refine (cG _ (((HI.out.alloc _).alloc _).alloc _)).mono ?_
 rintro e w1 ⟨rfl, e1⟩
 have k1 := ((((Ext.refl w).alloc _).alloc _).alloc _).trans e1
 obtain ⟨z1, z2, z3⟩ := e1.lt3
 obtain ⟨p1, p2⟩ := e1.cells
 clear cG
 go_wp2_with fail
 refine (checkV _ true hv _).mono ?_
 rintro e w2 ⟨rfl, e2⟩
 have k2 := (k1.alloc _).trans e2
 have y1 := e2.lt1
 have y2 : w.heap.size < w2.heap.size := by omega
 have y3 : w.heap.size + 1 < w2.heap.size := by omega
 have y4 : w.heap.size + 2 < w2.heap.size := by omega
 obtain ⟨q1, q2⟩ := e2.cells
 clear e1 e2
 go_wp2_with fail
 refine (ho _ (HI.out.ext k2)).mono ?_
 rintro e w3 ⟨rfl, e3⟩
 have k3 := k2.trans e3
 have j1 : w1.heap.size < w3.heap.size := by have := e3.le; omega
 have j2 : w.heap.size < w3.heap.size := by omega
 have j3 : w.heap.size + 1 < w3.heap.size := by omega
 have j4 : w.heap.size + 2 < w3.heap.size := by omega
 obtain ⟨r1, r2⟩ := e3.cells
 clear ho e3
 have k4 := k3.alloc (.cells #[.map (some r.1), .map (some r.2)] 75)
 have H4 := Lib.hid (HI.out.ext k4)
 have HT4 := Lib.hid (Touch.of_ext (F := Foot g tv rs) k4)
 obtain ⟨mi, mt, him, hmt, hrep⟩ := H4.out.tabs _ _ _ HR.out HT.out
 go_wp2_with fail
 refine (putt_any r.2 mt ks v _ hmt).mono ?_
 rintro e w6 ⟨rfl, m6, t6⟩
 have H6 := Lib.hid (H4.out.putt HR.out HT.out him hrep ks v m6 t6 (by rw [← HE.out]; exact HP.out))
 have HT6 := Lib.hid (HT4.out.trans (Touch.mono t6 (fun x hx => by subst hx; exact .inr (.inr (List.mem_flatMap.2 ⟨r, List.mem_of_getElem? HR.out, by simp⟩)))))
 clear m6 t6 him hmt hrep
 go_wp2_with fail
 go_ret
 refine ⟨rfl, ?_, HT6.out⟩
 rw [HS.out, HE.out]
 exact H6.out
theorem set_any (g : Nat) (tv : Value) (rs : List (Nat × Nat)) (H : Hp) (t k v : Vl) (w : World) (h : HeapIn w g tv rs H) (hlen : H.tabs.length ≤ 9223372036854775807) (hk : in64 k.n) (hvn : in64 v.n) :
  Calls Tryz.prog 20 #[.pointer (some ⟨g, 0, none⟩), t.v, k.v, v.v] w fun e w' => e = .returned (.string (setW H t k v)) ∧ HeapIn w' g tv rs (setH H t k v) ∧ Touch (Foot g tv rs) w w' := by
 have no : ∀ o : ByteArray, ¬ o = sNone → setW H t k v = o → (Calls Tryz.prog 20 #[.pointer (some ⟨g, 0, none⟩), t.v, k.v, v.v] w fun e w' => e = .returned (.string o) ∧ Ext w w') →
   Calls Tryz.prog 20 #[.pointer (some ⟨g, 0, none⟩), t.v, k.v, v.v] w fun e w' => e = .returned (.string (setW H t k v)) ∧ HeapIn w' g tv rs (setH H t k v) ∧ Touch (Foot g tv rs) w w' := by
  intro o ho e hc
  rw [e, setH_no (by rw [e]; exact ho)]
  exact hc.mono fun _ _ ⟨h1, h2⟩ => ⟨h1, h.ext h2, .of_ext h2⟩
 cases hv : v.ck with
 | false => exact no sType sNone_ne.2.1 (by unfold setW; rw [hv]; rfl) (set_type g tv rs H t k v w h hlen hk hv)
 | true =>
  by_cases hn : getW H t k = sNone
  ·have hkk := (getW_none hn).2.2
   by_cases hf : (getV H t k).k = 0
   ·by_cases h0 : v.k = 0
    ·rw [(setH_old hv hn (by unfold freshB; simp [h0])).1]
     rcases hkk with h2 | h2
     ·exact set_oldb_int g tv rs H t k v w h hlen hk hv hn hf h0 h2 hvn
     ·exact set_oldb_text g tv rs H t k v w h hlen hk hv hn hf h0 h2 hvn
    ·have hb : freshB H t k v = true := by unfold freshB; simp [hf, h0]
     by_cases hl : (tabOf H t).length < 65536
     ·by_cases hm : 1 ≤ H.cells - H.spent
      ·rw [(setH_fresh hv hn hf h0 hl hm).1]
       rcases hkk with h2 | h2
       ·exact set_new_int g tv rs H t k v w h hlen hk hv hn hf h0 hl hm h2 hvn
       ·exact set_new_text g tv rs H t k v w h hlen hk hv hn hf h0 hl hm h2 hvn
      ·have e : setW H t k v = sMemory := by unfold setW; rw [if_pos hv, if_pos hn, if_pos hb, if_neg (by omega), if_neg hm]
       rw [e, setH_no (by rw [e]; exact sNone_ne.2.2.2)]
       exact set_mem g tv rs H t k v w h hlen hk hv hn hf h0 hl hm
     ·exact no sLong sNone_ne.2.2.1 (by unfold setW; rw [if_pos hv, if_pos hn, if_pos hb, if_pos (by omega)]) (set_long g tv rs H t k v w h hlen hk hv hn hf h0 (by omega))
   ·rw [(setH_old hv hn (by unfold freshB; simp [hf])).1]
    rcases hkk with h2 | h2
    ·exact set_olda_int g tv rs H t k v w h hlen hk hv hn hf h2 hvn
    ·exact set_olda_text g tv rs H t k v w h hlen hk hv hn hf h2 hvn
  ·exact no _ hn (by unfold setW; rw [hv, if_pos rfl, if_neg hn]) (set_why g tv rs H t k v w h hlen hk hv (fun hl => hn (toList_nil hl)))
end Go.Proofs.YtlfihdcgbhdajaaGreatDoor
