/- lay: a reply's value, by its kind; any reply that may be. -/
import Derived.Test.YtlfihdcgbhdajaaGreatDoorYB6
namespace Go.Proofs.YtlfihdcgbhdajaaGreatDoor
open Go.RowKit
set_option linter.unusedVariables false
set_option linter.unusedSimpArgs false

set_option maxRecDepth 100000 in
set_option maxHeartbeats 1000000 in
theorem lay_0 (w : World) (g : Nat) (tv : Value) (rs : List (Nat × Nat)) (H : Hp) (h : HeapIn w g tv rs H) (hb sb lb kb M o1 o2 : Nat) (B : Bed w g tv rs hb sb lb kb M o1 o2) (n : Int) (s : ByteArray) (q : Option Addr) (m c : Nat) (r : Br3)
  (hc : ∀ W, Ext w W → Calls Tryz.prog 32 #[.agg #[.int .i64 0, .int .i64 n, .string s, .slice q m c]] W (VayE W g tv rs r)) :
  Calls Tryz.prog 36 #[.agg #[.int .i64 0, .int .i64 n, .string s, .slice q m c], .pointer (some ⟨kb, 0, none⟩)] w (VayE w g tv rs r) := by
 have HE := Lib.hid (((Ext.refl w).alloc (.cells #[.int .i64 0, .int .i64 n, .string s, .slice q m c] 25)).alloc (.cells #[.int .i64 0, .int .i64 0, .string ⟨#[]⟩] 34))
 have HB : Hid (Blk ((w.alloc (.cells #[.int .i64 0, .int .i64 n, .string s, .slice q m c] 25)).alloc (.cells #[.int .i64 0, .int .i64 0, .string ⟨#[]⟩] 34)) (w.heap.size + 1) 34 #[.int .i64 0, .int .i64 0, .string ⟨#[]⟩]) := Lib.hid (by
  have := Blk.new (w.alloc (.cells #[.int .i64 0, .int .i64 n, .string s, .slice q m c] 25)) 34 #[.int .i64 0, .int .i64 0, .string ⟨#[]⟩]
  rwa [size_alloc] at this)
 have HBED := Lib.hid (B.ext HE.out)
 have NB : Hid (¬ Foot g tv rs (w.heap.size + 1)) := Lib.hid (fun hx => by have := h.low hx; omega)
 have lk := run_lookup_lit Tryz.underlying70 Tryz.underlying22 rfl (kindsV hb sb lb o1 o2) 6 M (.int .i64 0) (.func (.func 32) #[] #[]) HBED.out.m (by rfl) false
 simp only [Bool.false_eq_true, if_false] at lk
 have c0 := HBED.out.k.cell 0
 simp only [List.getElem?_toArray, List.getElem?_cons_zero, List.getElem?_cons_succ] at c0
 have HC := Lib.hid hc
 obtain ⟨rw, rv, rH⟩ := r
 obtain ⟨vk, vn, vs⟩ := rv
 clear h B hc
 go_enter Tryz.func36, Tryz.ntmps36
 go_wp2_with fail
 refine (HC.out _ HE.out).mono ?_
 intro e w1 hE
 obtain ⟨tv1, rs1, s1⟩ := hE.step
 have S1 := Lib.hid (HS.pre HE.out s1)
 have B1 := Lib.hid (HB.out.step s1 NB.out)
 have N1 := Lib.hid (s1.notin HB.out.lt NB.out)
 clear s1 lk c0
 rcases Decidable.em (rw = sNone) with hs | hs
 ·obtain rfl := hE.yes hs
  clear hE
  subst hs
  obtain ⟨z0, z1, z2, y0, y1, y2⟩ := three B1.out
  have hlt := B1.out.lt
  go_wp2_with fail
  exact bodyPost_ret (v := (⟨vk, vn, vs⟩ : Vl).v) (by simp [results, Tryz.results36, go_sem, *]) rfl (VayE.mk1 rfl rfl (S1.out.set3 (Nat.le_succ _) N1.out _ _ _))
 ·have he := hE.no hs
  clear hE
  unfold Fails at he
  subst he
  go_wp2_with fail
  exact ⟨rfl, VayE.mk0 hs rfl S1.out⟩
set_option maxRecDepth 100000 in
set_option maxHeartbeats 1000000 in
theorem lay_3 (w : World) (g : Nat) (tv : Value) (rs : List (Nat × Nat)) (H : Hp) (h : HeapIn w g tv rs H) (hb sb lb kb M o1 o2 : Nat) (B : Bed w g tv rs hb sb lb kb M o1 o2) (n : Int) (s : ByteArray) (q : Option Addr) (m c : Nat) (r : Br3)
  (hc : ∀ W, Ext w W → Calls Tryz.prog 33 #[.agg #[.int .i64 3, .int .i64 n, .string s, .slice q m c]] W (VayE W g tv rs r)) :
  Calls Tryz.prog 36 #[.agg #[.int .i64 3, .int .i64 n, .string s, .slice q m c], .pointer (some ⟨kb, 0, none⟩)] w (VayE w g tv rs r) := by
 have HE := Lib.hid (((Ext.refl w).alloc (.cells #[.int .i64 3, .int .i64 n, .string s, .slice q m c] 25)).alloc (.cells #[.int .i64 0, .int .i64 0, .string ⟨#[]⟩] 34))
 have HB : Hid (Blk ((w.alloc (.cells #[.int .i64 3, .int .i64 n, .string s, .slice q m c] 25)).alloc (.cells #[.int .i64 0, .int .i64 0, .string ⟨#[]⟩] 34)) (w.heap.size + 1) 34 #[.int .i64 0, .int .i64 0, .string ⟨#[]⟩]) := Lib.hid (by
  have := Blk.new (w.alloc (.cells #[.int .i64 3, .int .i64 n, .string s, .slice q m c] 25)) 34 #[.int .i64 0, .int .i64 0, .string ⟨#[]⟩]
  rwa [size_alloc] at this)
 have HBED := Lib.hid (B.ext HE.out)
 have NB : Hid (¬ Foot g tv rs (w.heap.size + 1)) := Lib.hid (fun hx => by have := h.low hx; omega)
 have lk := run_lookup_lit Tryz.underlying70 Tryz.underlying22 rfl (kindsV hb sb lb o1 o2) 6 M (.int .i64 3) (.func (.func 33) #[] #[]) HBED.out.m (by rfl) false
 simp only [Bool.false_eq_true, if_false] at lk
 have c0 := HBED.out.k.cell 0
 simp only [List.getElem?_toArray, List.getElem?_cons_zero, List.getElem?_cons_succ] at c0
 have HC := Lib.hid hc
 obtain ⟨rw, rv, rH⟩ := r
 obtain ⟨vk, vn, vs⟩ := rv
 clear h B hc
 go_enter Tryz.func36, Tryz.ntmps36
 go_wp2_with fail
 refine (HC.out _ HE.out).mono ?_
 intro e w1 hE
 obtain ⟨tv1, rs1, s1⟩ := hE.step
 have S1 := Lib.hid (HS.pre HE.out s1)
 have B1 := Lib.hid (HB.out.step s1 NB.out)
 have N1 := Lib.hid (s1.notin HB.out.lt NB.out)
 clear s1 lk c0
 rcases Decidable.em (rw = sNone) with hs | hs
 ·obtain rfl := hE.yes hs
  clear hE
  subst hs
  obtain ⟨z0, z1, z2, y0, y1, y2⟩ := three B1.out
  have hlt := B1.out.lt
  go_wp2_with fail
  exact bodyPost_ret (v := (⟨vk, vn, vs⟩ : Vl).v) (by simp [results, Tryz.results36, go_sem, *]) rfl (VayE.mk1 rfl rfl (S1.out.set3 (Nat.le_succ _) N1.out _ _ _))
 ·have he := hE.no hs
  clear hE
  unfold Fails at he
  subst he
  go_wp2_with fail
  exact ⟨rfl, VayE.mk0 hs rfl S1.out⟩
set_option maxRecDepth 100000 in
set_option maxHeartbeats 1000000 in
theorem lay_4 (w : World) (g : Nat) (tv : Value) (rs : List (Nat × Nat)) (H : Hp) (h : HeapIn w g tv rs H) (hb sb lb kb M o1 o2 : Nat) (B : Bed w g tv rs hb sb lb kb M o1 o2) (n : Int) (s : ByteArray) (q : Option Addr) (m c : Nat) (r : Br3)
  (hc : ∀ W, Ext w W → Calls Tryz.prog 34 #[.agg #[.int .i64 4, .int .i64 n, .string s, .slice q m c], .pointer (some ⟨hb, 0, none⟩)] W (VayE W g tv rs r)) :
  Calls Tryz.prog 36 #[.agg #[.int .i64 4, .int .i64 n, .string s, .slice q m c], .pointer (some ⟨kb, 0, none⟩)] w (VayE w g tv rs r) := by
 have HE := Lib.hid (((Ext.refl w).alloc (.cells #[.int .i64 4, .int .i64 n, .string s, .slice q m c] 25)).alloc (.cells #[.int .i64 0, .int .i64 0, .string ⟨#[]⟩] 34))
 have HB : Hid (Blk ((w.alloc (.cells #[.int .i64 4, .int .i64 n, .string s, .slice q m c] 25)).alloc (.cells #[.int .i64 0, .int .i64 0, .string ⟨#[]⟩] 34)) (w.heap.size + 1) 34 #[.int .i64 0, .int .i64 0, .string ⟨#[]⟩]) := Lib.hid (by
  have := Blk.new (w.alloc (.cells #[.int .i64 4, .int .i64 n, .string s, .slice q m c] 25)) 34 #[.int .i64 0, .int .i64 0, .string ⟨#[]⟩]
  rwa [size_alloc] at this)
 have HBED := Lib.hid (B.ext HE.out)
 have NB : Hid (¬ Foot g tv rs (w.heap.size + 1)) := Lib.hid (fun hx => by have := h.low hx; omega)
 have lk := run_lookup_lit Tryz.underlying70 Tryz.underlying22 rfl (kindsV hb sb lb o1 o2) 6 M (.int .i64 4) (.func (.func 34) #[] #[.pointer (some ⟨hb, 0, none⟩)]) HBED.out.m (by rfl) false
 simp only [Bool.false_eq_true, if_false] at lk
 have c0 := HBED.out.k.cell 0
 simp only [List.getElem?_toArray, List.getElem?_cons_zero, List.getElem?_cons_succ] at c0
 have HC := Lib.hid hc
 obtain ⟨rw, rv, rH⟩ := r
 obtain ⟨vk, vn, vs⟩ := rv
 clear h B hc
 go_enter Tryz.func36, Tryz.ntmps36
 go_wp2_with fail
 refine (HC.out _ HE.out).mono ?_
 intro e w1 hE
 obtain ⟨tv1, rs1, s1⟩ := hE.step
 have S1 := Lib.hid (HS.pre HE.out s1)
 have B1 := Lib.hid (HB.out.step s1 NB.out)
 have N1 := Lib.hid (s1.notin HB.out.lt NB.out)
 clear s1 lk c0
 rcases Decidable.em (rw = sNone) with hs | hs
 ·obtain rfl := hE.yes hs
  clear hE
  subst hs
  obtain ⟨z0, z1, z2, y0, y1, y2⟩ := three B1.out
  have hlt := B1.out.lt
  go_wp2_with fail
  exact bodyPost_ret (v := (⟨vk, vn, vs⟩ : Vl).v) (by simp [results, Tryz.results36, go_sem, *]) rfl (VayE.mk1 rfl rfl (S1.out.set3 (Nat.le_succ _) N1.out _ _ _))
 ·have he := hE.no hs
  clear hE
  unfold Fails at he
  subst he
  go_wp2_with fail
  exact ⟨rfl, VayE.mk0 hs rfl S1.out⟩
set_option maxRecDepth 100000 in
set_option maxHeartbeats 1000000 in
theorem lay_1 (w : World) (g : Nat) (tv : Value) (rs : List (Nat × Nat)) (H : Hp) (h : HeapIn w g tv rs H) (hb sb lb kb M o1 o2 : Nat) (B : Bed w g tv rs hb sb lb kb M o1 o2) (n : Int) (s : ByteArray) (q : Option Addr) (m c : Nat) (r : Br3)
  (hc : ∀ W, Ext w W → Calls Tryz.prog 29 #[.agg #[.int .i64 1, .int .i64 n, .string s, .slice q m c], .pointer (some ⟨hb, 0, none⟩), .pointer (some ⟨sb, 0, none⟩), .pointer (some ⟨o1, 0, none⟩)] W (VayE W g tv rs r)) :
  Calls Tryz.prog 36 #[.agg #[.int .i64 1, .int .i64 n, .string s, .slice q m c], .pointer (some ⟨kb, 0, none⟩)] w (VayE w g tv rs r) := by
 have HE := Lib.hid (((Ext.refl w).alloc (.cells #[.int .i64 1, .int .i64 n, .string s, .slice q m c] 25)).alloc (.cells #[.int .i64 0, .int .i64 0, .string ⟨#[]⟩] 34))
 have HB : Hid (Blk ((w.alloc (.cells #[.int .i64 1, .int .i64 n, .string s, .slice q m c] 25)).alloc (.cells #[.int .i64 0, .int .i64 0, .string ⟨#[]⟩] 34)) (w.heap.size + 1) 34 #[.int .i64 0, .int .i64 0, .string ⟨#[]⟩]) := Lib.hid (by
  have := Blk.new (w.alloc (.cells #[.int .i64 1, .int .i64 n, .string s, .slice q m c] 25)) 34 #[.int .i64 0, .int .i64 0, .string ⟨#[]⟩]
  rwa [size_alloc] at this)
 have HBED := Lib.hid (B.ext HE.out)
 have NB : Hid (¬ Foot g tv rs (w.heap.size + 1)) := Lib.hid (fun hx => by have := h.low hx; omega)
 have lk := run_lookup_lit Tryz.underlying70 Tryz.underlying22 rfl (kindsV hb sb lb o1 o2) 6 M (.int .i64 1) (.func (.func 29) #[] #[.pointer (some ⟨hb, 0, none⟩), .pointer (some ⟨sb, 0, none⟩), .pointer (some ⟨o1, 0, none⟩)]) HBED.out.m (by rfl) false
 simp only [Bool.false_eq_true, if_false] at lk
 have c0 := HBED.out.k.cell 0
 simp only [List.getElem?_toArray, List.getElem?_cons_zero, List.getElem?_cons_succ] at c0
 have HC := Lib.hid hc
 obtain ⟨rw, rv, rH⟩ := r
 obtain ⟨vk, vn, vs⟩ := rv
 clear h B hc
 go_enter Tryz.func36, Tryz.ntmps36
 go_wp2_with fail
 refine (HC.out _ HE.out).mono ?_
 intro e w1 hE
 obtain ⟨tv1, rs1, s1⟩ := hE.step
 have S1 := Lib.hid (HS.pre HE.out s1)
 have B1 := Lib.hid (HB.out.step s1 NB.out)
 have N1 := Lib.hid (s1.notin HB.out.lt NB.out)
 clear s1 lk c0
 rcases Decidable.em (rw = sNone) with hs | hs
 ·obtain rfl := hE.yes hs
  clear hE
  subst hs
  obtain ⟨z0, z1, z2, y0, y1, y2⟩ := three B1.out
  have hlt := B1.out.lt
  go_wp2_with fail
  exact bodyPost_ret (v := (⟨vk, vn, vs⟩ : Vl).v) (by simp [results, Tryz.results36, go_sem, *]) rfl (VayE.mk1 rfl rfl (S1.out.set3 (Nat.le_succ _) N1.out _ _ _))
 ·have he := hE.no hs
  clear hE
  unfold Fails at he
  subst he
  go_wp2_with fail
  exact ⟨rfl, VayE.mk0 hs rfl S1.out⟩
set_option maxRecDepth 100000 in
set_option maxHeartbeats 1000000 in
theorem lay_2 (w : World) (g : Nat) (tv : Value) (rs : List (Nat × Nat)) (H : Hp) (h : HeapIn w g tv rs H) (hb sb lb kb M o1 o2 : Nat) (B : Bed w g tv rs hb sb lb kb M o1 o2) (n : Int) (s : ByteArray) (q : Option Addr) (m c : Nat) (r : Br3)
  (hc : ∀ W, Ext w W → Calls Tryz.prog 29 #[.agg #[.int .i64 2, .int .i64 n, .string s, .slice q m c], .pointer (some ⟨hb, 0, none⟩), .pointer (some ⟨sb, 0, none⟩), .pointer (some ⟨o2, 0, none⟩)] W (VayE W g tv rs r)) :
  Calls Tryz.prog 36 #[.agg #[.int .i64 2, .int .i64 n, .string s, .slice q m c], .pointer (some ⟨kb, 0, none⟩)] w (VayE w g tv rs r) := by
 have HE := Lib.hid (((Ext.refl w).alloc (.cells #[.int .i64 2, .int .i64 n, .string s, .slice q m c] 25)).alloc (.cells #[.int .i64 0, .int .i64 0, .string ⟨#[]⟩] 34))
 have HB : Hid (Blk ((w.alloc (.cells #[.int .i64 2, .int .i64 n, .string s, .slice q m c] 25)).alloc (.cells #[.int .i64 0, .int .i64 0, .string ⟨#[]⟩] 34)) (w.heap.size + 1) 34 #[.int .i64 0, .int .i64 0, .string ⟨#[]⟩]) := Lib.hid (by
  have := Blk.new (w.alloc (.cells #[.int .i64 2, .int .i64 n, .string s, .slice q m c] 25)) 34 #[.int .i64 0, .int .i64 0, .string ⟨#[]⟩]
  rwa [size_alloc] at this)
 have HBED := Lib.hid (B.ext HE.out)
 have NB : Hid (¬ Foot g tv rs (w.heap.size + 1)) := Lib.hid (fun hx => by have := h.low hx; omega)
 have lk := run_lookup_lit Tryz.underlying70 Tryz.underlying22 rfl (kindsV hb sb lb o1 o2) 6 M (.int .i64 2) (.func (.func 29) #[] #[.pointer (some ⟨hb, 0, none⟩), .pointer (some ⟨sb, 0, none⟩), .pointer (some ⟨o2, 0, none⟩)]) HBED.out.m (by rfl) false
 simp only [Bool.false_eq_true, if_false] at lk
 have c0 := HBED.out.k.cell 0
 simp only [List.getElem?_toArray, List.getElem?_cons_zero, List.getElem?_cons_succ] at c0
 have HC := Lib.hid hc
 obtain ⟨rw, rv, rH⟩ := r
 obtain ⟨vk, vn, vs⟩ := rv
 clear h B hc
 go_enter Tryz.func36, Tryz.ntmps36
 go_wp2_with fail
 refine (HC.out _ HE.out).mono ?_
 intro e w1 hE
 obtain ⟨tv1, rs1, s1⟩ := hE.step
 have S1 := Lib.hid (HS.pre HE.out s1)
 have B1 := Lib.hid (HB.out.step s1 NB.out)
 have N1 := Lib.hid (s1.notin HB.out.lt NB.out)
 clear s1 lk c0
 rcases Decidable.em (rw = sNone) with hs | hs
 ·obtain rfl := hE.yes hs
  clear hE
  subst hs
  obtain ⟨z0, z1, z2, y0, y1, y2⟩ := three B1.out
  have hlt := B1.out.lt
  go_wp2_with fail
  exact bodyPost_ret (v := (⟨vk, vn, vs⟩ : Vl).v) (by simp [results, Tryz.results36, go_sem, *]) rfl (VayE.mk1 rfl rfl (S1.out.set3 (Nat.le_succ _) N1.out _ _ _))
 ·have he := hE.no hs
  clear hE
  unfold Fails at he
  subst he
  go_wp2_with fail
  exact ⟨rfl, VayE.mk0 hs rfl S1.out⟩
set_option maxRecDepth 100000 in
set_option maxHeartbeats 1000000 in
theorem lay_5 (w : World) (g : Nat) (tv : Value) (rs : List (Nat × Nat)) (H : Hp) (h : HeapIn w g tv rs H) (hb sb lb kb M o1 o2 : Nat) (B : Bed w g tv rs hb sb lb kb M o1 o2) (n : Int) (s : ByteArray) (q : Option Addr) (m c : Nat) (r : Br3)
  (hc : ∀ W, Ext w W → Calls Tryz.prog 35 #[.agg #[.int .i64 5, .int .i64 n, .string s, .slice q m c], .pointer (some ⟨hb, 0, none⟩), .pointer (some ⟨sb, 0, none⟩), .pointer (some ⟨lb, 0, none⟩)] W (VayE W g tv rs r)) :
  Calls Tryz.prog 36 #[.agg #[.int .i64 5, .int .i64 n, .string s, .slice q m c], .pointer (some ⟨kb, 0, none⟩)] w (VayE w g tv rs r) := by
 have HE := Lib.hid (((Ext.refl w).alloc (.cells #[.int .i64 5, .int .i64 n, .string s, .slice q m c] 25)).alloc (.cells #[.int .i64 0, .int .i64 0, .string ⟨#[]⟩] 34))
 have HB : Hid (Blk ((w.alloc (.cells #[.int .i64 5, .int .i64 n, .string s, .slice q m c] 25)).alloc (.cells #[.int .i64 0, .int .i64 0, .string ⟨#[]⟩] 34)) (w.heap.size + 1) 34 #[.int .i64 0, .int .i64 0, .string ⟨#[]⟩]) := Lib.hid (by
  have := Blk.new (w.alloc (.cells #[.int .i64 5, .int .i64 n, .string s, .slice q m c] 25)) 34 #[.int .i64 0, .int .i64 0, .string ⟨#[]⟩]
  rwa [size_alloc] at this)
 have HBED := Lib.hid (B.ext HE.out)
 have NB : Hid (¬ Foot g tv rs (w.heap.size + 1)) := Lib.hid (fun hx => by have := h.low hx; omega)
 have lk := run_lookup_lit Tryz.underlying70 Tryz.underlying22 rfl (kindsV hb sb lb o1 o2) 6 M (.int .i64 5) (.func (.func 35) #[] #[.pointer (some ⟨hb, 0, none⟩), .pointer (some ⟨sb, 0, none⟩), .pointer (some ⟨lb, 0, none⟩)]) HBED.out.m (by rfl) false
 simp only [Bool.false_eq_true, if_false] at lk
 have c0 := HBED.out.k.cell 0
 simp only [List.getElem?_toArray, List.getElem?_cons_zero, List.getElem?_cons_succ] at c0
 have HC := Lib.hid hc
 obtain ⟨rw, rv, rH⟩ := r
 obtain ⟨vk, vn, vs⟩ := rv
 clear h B hc
 go_enter Tryz.func36, Tryz.ntmps36
 go_wp2_with fail
 refine (HC.out _ HE.out).mono ?_
 intro e w1 hE
 obtain ⟨tv1, rs1, s1⟩ := hE.step
 have S1 := Lib.hid (HS.pre HE.out s1)
 have B1 := Lib.hid (HB.out.step s1 NB.out)
 have N1 := Lib.hid (s1.notin HB.out.lt NB.out)
 clear s1 lk c0
 rcases Decidable.em (rw = sNone) with hs | hs
 ·obtain rfl := hE.yes hs
  clear hE
  subst hs
  obtain ⟨z0, z1, z2, y0, y1, y2⟩ := three B1.out
  have hlt := B1.out.lt
  go_wp2_with fail
  exact bodyPost_ret (v := (⟨vk, vn, vs⟩ : Vl).v) (by simp [results, Tryz.results36, go_sem, *]) rfl (VayE.mk1 rfl rfl (S1.out.set3 (Nat.le_succ _) N1.out _ _ _))
 ·have he := hE.no hs
  clear hE
  unfold Fails at he
  subst he
  go_wp2_with fail
  exact ⟨rfl, VayE.mk0 hs rfl S1.out⟩
theorem VayE.of_ext {w w' : World} {g : Nat} {tv : Value} {rs : List (Nat × Nat)} {H : Hp} (h : HeapIn w g tv rs H) {v : Vl} {e : Ending} (he : e = .returned v.v) (hx : Ext w w') : VayE w g tv rs (sNone, v, H) e w' :=
 VayE.mk1 rfl he (HS.of_ext h hx)
theorem vay_step (d : Nat) (IH : ∀ e, d = e + 1 → LayOk e) : LayOk d := by
 intro w g tv rs H h hb sb lb kb M o1 o2 B x q c D hlen htx hf h6 hv
 obtain ⟨k, n, s, l⟩ := x
 simp only [Rep.k, Rep.n, Rep.s, Rep.l] at hv ⊢
 have hz : s.size ≤ 9223372036854775807 := by unfold txR at htx; omega
 have hlen2 : H.tabs.length ≤ 1000000000 := by omega
 unfold fineR at hf
 unfold valP
 by_cases h3 : k = 3
 ·subst h3
  rw [if_pos rfl]
  exact lay_3 w g tv rs H h hb sb lb kb M o1 o2 B n s q l.length c _ (fun W hW => (num_do W 3 n s q l.length c).mono fun e w' ⟨he, hx⟩ => VayE.of_ext (h.ext hW) he hx)
 rw [if_neg h3]
 by_cases h4 : k = 4
 ·subst h4
  rw [if_pos rfl]
  exact lay_4 w g tv rs H h hb sb lb kb M o1 o2 B n s q l.length c _ (fun W hW => text_do g tv rs H W (h.ext hW) hb (B.ext hW).h (B.off _ (by simp)) 4 n s hz q l.length c)
 rw [if_neg h4]
 by_cases h1 : k = 1
 ·subst h1
  rw [if_pos rfl]
  exact lay_1 w g tv rs H h hb sb lb kb M o1 o2 B n s q l.length c _ (fun W hW => under_do g tv rs H W (h.ext hW) hlen2 hb sb o1 sOk (B.ext hW).h (B.ext hW).s (B.ext hW).a (B.off _ (by simp)) (B.off _ (by simp)) (B.off _ (by simp)) 1 n s hz q l.length c)
 rw [if_neg h1]
 by_cases h2 : k = 2
 ·subst h2
  rw [if_pos rfl]
  exact lay_2 w g tv rs H h hb sb lb kb M o1 o2 B n s q l.length c _ (fun W hW => under_do g tv rs H W (h.ext hW) hlen2 hb sb o2 sErr (B.ext hW).h (B.ext hW).s (B.ext hW).b (B.off _ (by simp)) (B.off _ (by simp)) (B.off _ (by simp)) 2 n s hz q l.length c)
 rw [if_neg h2]
 by_cases h5 : k = 5
 ·subst h5
  rw [if_pos rfl]
  rw [if_neg (by decide), if_neg (by decide), if_neg (by decide), if_neg (by decide), if_pos rfl] at hf
  cases d with
  | zero => cases hf
  | succ d =>
   simp only [Bool.and_eq_true] at hf
   unfold itR at hlen
   unfold txR at htx
   unfold i64R at h6
   exact lay_5 w g tv rs H h hb sb lb kb M o1 o2 B n s q l.length c _ (fun W hW => list_do d (IH d rfl) W g tv rs H (h.ext hW) hb sb lb kb M o1 o2 (B.ext hW) 5 n s l q c D hlen (by omega) hf.2 h6.2 ((hv.ext hW).keep (fun _ _ _ _ hc => hc) (fun b hlt (hb : b < w.heap.size ∧ _) => (⟨hlt, hb.2⟩ : b < _ ∧ ¬ Foot g tv rs b))))
 rw [if_neg h5]
 by_cases h0 : k = 0
 ·subst h0
  exact lay_0 w g tv rs H h hb sb lb kb M o1 o2 B n s q l.length c _ (fun W hW => (none_do W 0 n s q l.length c).mono fun e w' ⟨he, hx⟩ => VayE.of_ext (h.ext hW) he hx)
 ·rw [if_neg h0, if_neg (by omega), if_neg h3, if_neg h4, if_neg h5] at hf
  cases hf
theorem vay_all : ∀ d, LayOk d := by
  intro d
  induction d with
  | zero =>
    intro w g tv rs H h hb sb lb kb M o1 o2 B x q c D hlen htx hf h6 hv
    exact vay_step 0 (fun _ hd => absurd hd (by omega)) w g tv rs H h hb sb lb kb M o1 o2 B x q c D hlen htx hf h6 hv
  | succ d ih =>
    intro w g tv rs H h hb sb lb kb M o1 o2 B x q c D hlen htx hf h6 hv
    exact vay_step (d + 1) (fun e hd => by obtain rfl : e = d := by omega
                                           exact ih) w g tv rs H h hb sb lb kb M o1 o2 B x q c D hlen htx hf h6 hv
end Go.Proofs.YtlfihdcgbhdajaaGreatDoor
