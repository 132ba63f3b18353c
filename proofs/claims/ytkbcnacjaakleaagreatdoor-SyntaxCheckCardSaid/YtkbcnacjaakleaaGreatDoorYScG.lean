/- The document's kids, kind by kind. -/
import Derived.Test.YtkbcnacjaakleaaGreatDoorYP04
set_option maxRecDepth 100000
set_option maxHeartbeats 32000000
set_option linter.unusedVariables false
set_option linter.unusedSimpArgs false
namespace Go.Proofs.YtkbcnacjaakleaaGreatDoor
open Go.RowKit

theorem KidsAt.take {ok : Nat → Prop} {w : World} : ∀ {d : Nat} {q : Option Addr} {n c : Nat} {l : List Nd}, KidsAt ok w d (.slice q n c) l → ∀ j, j ≤ l.length → KidsAt ok w d (.slice q j c) (l.take j)
 | 0, q, n, c, l, ⟨h0, _⟩, j, hj => by
  subst h0
  obtain rfl : j = 0 := by simpa using hj
  exact ⟨rfl, q, c, rfl⟩
 | d + 1, q, n, c, l, ⟨q', c', e, hq⟩, j, hj => by
  injection e with e1 e2 e3
  subst e1 e2 e3
  refine ⟨q, c, by rw [List.length_take, Nat.min_eq_left hj], fun h0 => ?_⟩
  rw [List.length_take, Nat.min_eq_left hj] at h0
  obtain ⟨b, o, e4, hb, hcp, hx⟩ := hq (by omega)
  refine ⟨b, o, e4, hb, by rw [List.length_take, Nat.min_eq_left hj]; omega, fun i hi => ?_⟩
  rw [List.length_take, Nat.min_eq_left hj] at hi
  rw [List.getElem_take]
  exact hx i (by omega)
theorem KidsAt.cap {ok : Nat → Prop} {w : World} : ∀ {d : Nat} {q : Option Addr} {n c : Nat} {l : List Nd}, KidsAt ok w d (.slice q n c) l → 0 < l.length → l.length ≤ c
 | 0, q, n, c, l, ⟨h0, _⟩, h => by subst h0; simp at h
 | d + 1, q, n, c, l, ⟨q', c', e, hq⟩, h => by
  injection e with e1 e2 e3
  subst e3
  obtain ⟨_, _, _, _, hcp, _⟩ := hq h
  exact hcp
theorem lenP (l : List Nd) (m k : Nat) (h : l.length = m + 1) : (l.length == k) = ((m : Int) + 1 == (k : Int)) := by
 rw [h, Bool.eq_iff_iff, beq_iff_eq, beq_iff_eq]; omega
theorem rkids_8 (w : World) (ok : Nat → Prop) (d : Nat) (a t : ByteArray) (n : Int) (q0 : Option Addr) (n0 c9 : Nat) (q : Option Addr) (c : Nat) (l : List Nd) (h : KidsAt ok w d (.slice q l.length c) l) (hl : l.length ≤ 140737488355328) (hs : ∀ x ∈ l, In64 x.k) :
  Calls Tryz.prog 75 #[.agg #[.int .i64 8, .string a, .string t, .int .i64 n, .slice q0 n0 c9, .slice q l.length c]] w fun e w' => e = .returned (.bool (countP 0 l)) ∧ Ext w w' := by
 rcases List.eq_nil_or_concat l with rfl | ⟨l0, x, hlx⟩
 ·have HE := Lib.hid ((Ext.refl w).alloc (.cells #[.int .i64 8, .string a, .string t, .int .i64 n, .slice q0 n0 c9, .slice q 0 c] 28))
  have HK := Lib.hid h
  clear h hs
  go_enter Tryz.func75, Tryz.ntmps75
  go_wp2_with fail
  go_quiet (fail)
  have EQ := Lib.hid (HE.out.drewN nq)
  clear HE
  go_wp2_with fail
  go_ret
  exact ⟨rfl, EQ.out⟩
 ·obtain ⟨m, hm⟩ : ∃ m, l.length = m + 1 := ⟨l0.length, by rw [hlx]; simp⟩
  have kl : m < l.length := by omega
  have HK := Lib.hid h
  obtain ⟨b, o, qn, cn, ql, cl, rfl, c0, g1, g2, g3, g4, g5, g6⟩ := h.node kl
  clear g1 g2 g3 g4 g5 g6 hlx
  have hxm : l[m]? = some l[m] := List.getElem?_eq_getElem kl
  have hwk : IntKind.i64.wrap l[m].k = l[m].k := IntWalk.i64_in _ (hs _ (List.getElem_mem kl))
  obtain ⟨y, hy⟩ : ∃ y, l[m].k = y := ⟨_, rfl⟩
  rw [hy] at c0 hwk
  have HLK := Lib.hid (show (l[m]?).map Nd.k = some y by rw [hxm, ← hy]; rfl)
  rw [hm] at hl ⊢
  have HM := Lib.hid hm
  have HK2 : Hid (KidsAt ok w d (.slice (some ⟨b, o, none⟩) (m + 1) c) l) := Lib.hid (by rw [← HM.out]; exact HK.out)
  have capc := HK2.out.cap (by rw [HM.out]; omega)
  rw [HM.out] at capc
  have HX := Lib.hid (fun W (e : Ext w W) => e.cell c0)
  have HS := Lib.hid hs
  clear c0 h kl hs hy hxm hm
  have HE := Lib.hid ((Ext.refl w).alloc (.cells #[.int .i64 8, .string a, .string t, .int .i64 n, .slice q0 n0 c9, .slice (some ⟨b, o, none⟩) (m + 1) c] 28))
  have hw1 : IntKind.i64.wrap ((m : Int) + 1 - 1) = (m : Int) := by rw [IntWalk.i64_in _ (by omega)]; omega
  have hm0 : (0 : Int) ≤ (m : Int) := by omega
  have hm1 : (m : Int) < (m : Int) + 1 := by omega
  have hmx : max (0 : Int) (m : Int) = (m : Int) := by omega
  have hd0 : decide ((0 : Int) < (m : Int) + 1) = true := decide_eq_true (by omega)
  have hk0 : ((m : Int) + 1 == 0) = false := beq_eq_false_iff_ne.2 (by omega)
  have HR : Hid (countP 0 l = false) := Lib.hid (by unfold countP; rw [HM.out]; rfl)
  try clear hc
  go_enter Tryz.func75, Tryz.ntmps75
  go_wp2_with fail
  go_quiet (fail)
  have EQ := Lib.hid (HE.out.drewN nq)
  have c0 := HX.out _ EQ.out
  clear HE
  go_wp2_with fail
  go_ret
  rw [HR.out]
  exact ⟨rfl, EQ.out⟩
theorem rkids_10 (w : World) (ok : Nat → Prop) (d : Nat) (a t : ByteArray) (n : Int) (q0 : Option Addr) (n0 c9 : Nat) (q : Option Addr) (c : Nat) (l : List Nd) (h : KidsAt ok w d (.slice q l.length c) l) (hl : l.length ≤ 140737488355328) (hs : ∀ x ∈ l, In64 x.k) :
  Calls Tryz.prog 75 #[.agg #[.int .i64 10, .string a, .string t, .int .i64 n, .slice q0 n0 c9, .slice q l.length c]] w fun e w' => e = .returned (.bool (countP 0 l)) ∧ Ext w w' := by
 rcases List.eq_nil_or_concat l with rfl | ⟨l0, x, hlx⟩
 ·have HE := Lib.hid ((Ext.refl w).alloc (.cells #[.int .i64 10, .string a, .string t, .int .i64 n, .slice q0 n0 c9, .slice q 0 c] 28))
  have HK := Lib.hid h
  clear h hs
  go_enter Tryz.func75, Tryz.ntmps75
  go_wp2_with fail
  go_quiet (fail)
  have EQ := Lib.hid (HE.out.drewN nq)
  clear HE
  go_wp2_with fail
  go_ret
  exact ⟨rfl, EQ.out⟩
 ·obtain ⟨m, hm⟩ : ∃ m, l.length = m + 1 := ⟨l0.length, by rw [hlx]; simp⟩
  have kl : m < l.length := by omega
  have HK := Lib.hid h
  obtain ⟨b, o, qn, cn, ql, cl, rfl, c0, g1, g2, g3, g4, g5, g6⟩ := h.node kl
  clear g1 g2 g3 g4 g5 g6 hlx
  have hxm : l[m]? = some l[m] := List.getElem?_eq_getElem kl
  have hwk : IntKind.i64.wrap l[m].k = l[m].k := IntWalk.i64_in _ (hs _ (List.getElem_mem kl))
  obtain ⟨y, hy⟩ : ∃ y, l[m].k = y := ⟨_, rfl⟩
  rw [hy] at c0 hwk
  have HLK := Lib.hid (show (l[m]?).map Nd.k = some y by rw [hxm, ← hy]; rfl)
  rw [hm] at hl ⊢
  have HM := Lib.hid hm
  have HK2 : Hid (KidsAt ok w d (.slice (some ⟨b, o, none⟩) (m + 1) c) l) := Lib.hid (by rw [← HM.out]; exact HK.out)
  have capc := HK2.out.cap (by rw [HM.out]; omega)
  rw [HM.out] at capc
  have HX := Lib.hid (fun W (e : Ext w W) => e.cell c0)
  have HS := Lib.hid hs
  clear c0 h kl hs hy hxm hm
  have HE := Lib.hid ((Ext.refl w).alloc (.cells #[.int .i64 10, .string a, .string t, .int .i64 n, .slice q0 n0 c9, .slice (some ⟨b, o, none⟩) (m + 1) c] 28))
  have hw1 : IntKind.i64.wrap ((m : Int) + 1 - 1) = (m : Int) := by rw [IntWalk.i64_in _ (by omega)]; omega
  have hm0 : (0 : Int) ≤ (m : Int) := by omega
  have hm1 : (m : Int) < (m : Int) + 1 := by omega
  have hmx : max (0 : Int) (m : Int) = (m : Int) := by omega
  have hd0 : decide ((0 : Int) < (m : Int) + 1) = true := decide_eq_true (by omega)
  have hk0 : ((m : Int) + 1 == 0) = false := beq_eq_false_iff_ne.2 (by omega)
  have HR : Hid (countP 0 l = false) := Lib.hid (by unfold countP; rw [HM.out]; rfl)
  try clear hc
  go_enter Tryz.func75, Tryz.ntmps75
  go_wp2_with fail
  go_quiet (fail)
  have EQ := Lib.hid (HE.out.drewN nq)
  have c0 := HX.out _ EQ.out
  clear HE
  go_wp2_with fail
  go_ret
  rw [HR.out]
  exact ⟨rfl, EQ.out⟩
theorem rkids_11 (w : World) (ok : Nat → Prop) (d : Nat) (a t : ByteArray) (n : Int) (q0 : Option Addr) (n0 c9 : Nat) (q : Option Addr) (c : Nat) (l : List Nd) (h : KidsAt ok w d (.slice q l.length c) l) (hl : l.length ≤ 140737488355328) (hs : ∀ x ∈ l, In64 x.k) :
  Calls Tryz.prog 75 #[.agg #[.int .i64 11, .string a, .string t, .int .i64 n, .slice q0 n0 c9, .slice q l.length c]] w fun e w' => e = .returned (.bool (countP 0 l)) ∧ Ext w w' := by
 rcases List.eq_nil_or_concat l with rfl | ⟨l0, x, hlx⟩
 ·have HE := Lib.hid ((Ext.refl w).alloc (.cells #[.int .i64 11, .string a, .string t, .int .i64 n, .slice q0 n0 c9, .slice q 0 c] 28))
  have HK := Lib.hid h
  clear h hs
  go_enter Tryz.func75, Tryz.ntmps75
  go_wp2_with fail
  go_quiet (fail)
  have EQ := Lib.hid (HE.out.drewN nq)
  clear HE
  go_wp2_with fail
  go_ret
  exact ⟨rfl, EQ.out⟩
 ·obtain ⟨m, hm⟩ : ∃ m, l.length = m + 1 := ⟨l0.length, by rw [hlx]; simp⟩
  have kl : m < l.length := by omega
  have HK := Lib.hid h
  obtain ⟨b, o, qn, cn, ql, cl, rfl, c0, g1, g2, g3, g4, g5, g6⟩ := h.node kl
  clear g1 g2 g3 g4 g5 g6 hlx
  have hxm : l[m]? = some l[m] := List.getElem?_eq_getElem kl
  have hwk : IntKind.i64.wrap l[m].k = l[m].k := IntWalk.i64_in _ (hs _ (List.getElem_mem kl))
  obtain ⟨y, hy⟩ : ∃ y, l[m].k = y := ⟨_, rfl⟩
  rw [hy] at c0 hwk
  have HLK := Lib.hid (show (l[m]?).map Nd.k = some y by rw [hxm, ← hy]; rfl)
  rw [hm] at hl ⊢
  have HM := Lib.hid hm
  have HK2 : Hid (KidsAt ok w d (.slice (some ⟨b, o, none⟩) (m + 1) c) l) := Lib.hid (by rw [← HM.out]; exact HK.out)
  have capc := HK2.out.cap (by rw [HM.out]; omega)
  rw [HM.out] at capc
  have HX := Lib.hid (fun W (e : Ext w W) => e.cell c0)
  have HS := Lib.hid hs
  clear c0 h kl hs hy hxm hm
  have HE := Lib.hid ((Ext.refl w).alloc (.cells #[.int .i64 11, .string a, .string t, .int .i64 n, .slice q0 n0 c9, .slice (some ⟨b, o, none⟩) (m + 1) c] 28))
  have hw1 : IntKind.i64.wrap ((m : Int) + 1 - 1) = (m : Int) := by rw [IntWalk.i64_in _ (by omega)]; omega
  have hm0 : (0 : Int) ≤ (m : Int) := by omega
  have hm1 : (m : Int) < (m : Int) + 1 := by omega
  have hmx : max (0 : Int) (m : Int) = (m : Int) := by omega
  have hd0 : decide ((0 : Int) < (m : Int) + 1) = true := decide_eq_true (by omega)
  have hk0 : ((m : Int) + 1 == 0) = false := beq_eq_false_iff_ne.2 (by omega)
  have HR : Hid (countP 0 l = false) := Lib.hid (by unfold countP; rw [HM.out]; rfl)
  try clear hc
  go_enter Tryz.func75, Tryz.ntmps75
  go_wp2_with fail
  go_quiet (fail)
  have EQ := Lib.hid (HE.out.drewN nq)
  have c0 := HX.out _ EQ.out
  clear HE
  go_wp2_with fail
  go_ret
  rw [HR.out]
  exact ⟨rfl, EQ.out⟩
theorem rkids_12 (w : World) (ok : Nat → Prop) (d : Nat) (a t : ByteArray) (n : Int) (q0 : Option Addr) (n0 c9 : Nat) (q : Option Addr) (c : Nat) (l : List Nd) (h : KidsAt ok w d (.slice q l.length c) l) (hl : l.length ≤ 140737488355328) (hs : ∀ x ∈ l, In64 x.k) :
  Calls Tryz.prog 75 #[.agg #[.int .i64 12, .string a, .string t, .int .i64 n, .slice q0 n0 c9, .slice q l.length c]] w fun e w' => e = .returned (.bool (countP 0 l)) ∧ Ext w w' := by
 rcases List.eq_nil_or_concat l with rfl | ⟨l0, x, hlx⟩
 ·have HE := Lib.hid ((Ext.refl w).alloc (.cells #[.int .i64 12, .string a, .string t, .int .i64 n, .slice q0 n0 c9, .slice q 0 c] 28))
  have HK := Lib.hid h
  clear h hs
  go_enter Tryz.func75, Tryz.ntmps75
  go_wp2_with fail
  go_quiet (fail)
  have EQ := Lib.hid (HE.out.drewN nq)
  clear HE
  go_wp2_with fail
  go_ret
  exact ⟨rfl, EQ.out⟩
 ·obtain ⟨m, hm⟩ : ∃ m, l.length = m + 1 := ⟨l0.length, by rw [hlx]; simp⟩
  have kl : m < l.length := by omega
  have HK := Lib.hid h
  obtain ⟨b, o, qn, cn, ql, cl, rfl, c0, g1, g2, g3, g4, g5, g6⟩ := h.node kl
  clear g1 g2 g3 g4 g5 g6 hlx
  have hxm : l[m]? = some l[m] := List.getElem?_eq_getElem kl
  have hwk : IntKind.i64.wrap l[m].k = l[m].k := IntWalk.i64_in _ (hs _ (List.getElem_mem kl))
  obtain ⟨y, hy⟩ : ∃ y, l[m].k = y := ⟨_, rfl⟩
  rw [hy] at c0 hwk
  have HLK := Lib.hid (show (l[m]?).map Nd.k = some y by rw [hxm, ← hy]; rfl)
  rw [hm] at hl ⊢
  have HM := Lib.hid hm
  have HK2 : Hid (KidsAt ok w d (.slice (some ⟨b, o, none⟩) (m + 1) c) l) := Lib.hid (by rw [← HM.out]; exact HK.out)
  have capc := HK2.out.cap (by rw [HM.out]; omega)
  rw [HM.out] at capc
  have HX := Lib.hid (fun W (e : Ext w W) => e.cell c0)
  have HS := Lib.hid hs
  clear c0 h kl hs hy hxm hm
  have HE := Lib.hid ((Ext.refl w).alloc (.cells #[.int .i64 12, .string a, .string t, .int .i64 n, .slice q0 n0 c9, .slice (some ⟨b, o, none⟩) (m + 1) c] 28))
  have hw1 : IntKind.i64.wrap ((m : Int) + 1 - 1) = (m : Int) := by rw [IntWalk.i64_in _ (by omega)]; omega
  have hm0 : (0 : Int) ≤ (m : Int) := by omega
  have hm1 : (m : Int) < (m : Int) + 1 := by omega
  have hmx : max (0 : Int) (m : Int) = (m : Int) := by omega
  have hd0 : decide ((0 : Int) < (m : Int) + 1) = true := decide_eq_true (by omega)
  have hk0 : ((m : Int) + 1 == 0) = false := beq_eq_false_iff_ne.2 (by omega)
  have HR : Hid (countP 0 l = false) := Lib.hid (by unfold countP; rw [HM.out]; rfl)
  try clear hc
  go_enter Tryz.func75, Tryz.ntmps75
  go_wp2_with fail
  go_quiet (fail)
  have EQ := Lib.hid (HE.out.drewN nq)
  have c0 := HX.out _ EQ.out
  clear HE
  go_wp2_with fail
  go_ret
  rw [HR.out]
  exact ⟨rfl, EQ.out⟩
theorem rkids_13 (w : World) (ok : Nat → Prop) (d : Nat) (a t : ByteArray) (n : Int) (q0 : Option Addr) (n0 c9 : Nat) (q : Option Addr) (c : Nat) (l : List Nd) (h : KidsAt ok w d (.slice q l.length c) l) (hl : l.length ≤ 140737488355328) (hs : ∀ x ∈ l, In64 x.k) :
  Calls Tryz.prog 75 #[.agg #[.int .i64 13, .string a, .string t, .int .i64 n, .slice q0 n0 c9, .slice q l.length c]] w fun e w' => e = .returned (.bool (countP 0 l)) ∧ Ext w w' := by
 rcases List.eq_nil_or_concat l with rfl | ⟨l0, x, hlx⟩
 ·have HE := Lib.hid ((Ext.refl w).alloc (.cells #[.int .i64 13, .string a, .string t, .int .i64 n, .slice q0 n0 c9, .slice q 0 c] 28))
  have HK := Lib.hid h
  clear h hs
  go_enter Tryz.func75, Tryz.ntmps75
  go_wp2_with fail
  go_quiet (fail)
  have EQ := Lib.hid (HE.out.drewN nq)
  clear HE
  go_wp2_with fail
  go_ret
  exact ⟨rfl, EQ.out⟩
 ·obtain ⟨m, hm⟩ : ∃ m, l.length = m + 1 := ⟨l0.length, by rw [hlx]; simp⟩
  have kl : m < l.length := by omega
  have HK := Lib.hid h
  obtain ⟨b, o, qn, cn, ql, cl, rfl, c0, g1, g2, g3, g4, g5, g6⟩ := h.node kl
  clear g1 g2 g3 g4 g5 g6 hlx
  have hxm : l[m]? = some l[m] := List.getElem?_eq_getElem kl
  have hwk : IntKind.i64.wrap l[m].k = l[m].k := IntWalk.i64_in _ (hs _ (List.getElem_mem kl))
  obtain ⟨y, hy⟩ : ∃ y, l[m].k = y := ⟨_, rfl⟩
  rw [hy] at c0 hwk
  have HLK := Lib.hid (show (l[m]?).map Nd.k = some y by rw [hxm, ← hy]; rfl)
  rw [hm] at hl ⊢
  have HM := Lib.hid hm
  have HK2 : Hid (KidsAt ok w d (.slice (some ⟨b, o, none⟩) (m + 1) c) l) := Lib.hid (by rw [← HM.out]; exact HK.out)
  have capc := HK2.out.cap (by rw [HM.out]; omega)
  rw [HM.out] at capc
  have HX := Lib.hid (fun W (e : Ext w W) => e.cell c0)
  have HS := Lib.hid hs
  clear c0 h kl hs hy hxm hm
  have HE := Lib.hid ((Ext.refl w).alloc (.cells #[.int .i64 13, .string a, .string t, .int .i64 n, .slice q0 n0 c9, .slice (some ⟨b, o, none⟩) (m + 1) c] 28))
  have hw1 : IntKind.i64.wrap ((m : Int) + 1 - 1) = (m : Int) := by rw [IntWalk.i64_in _ (by omega)]; omega
  have hm0 : (0 : Int) ≤ (m : Int) := by omega
  have hm1 : (m : Int) < (m : Int) + 1 := by omega
  have hmx : max (0 : Int) (m : Int) = (m : Int) := by omega
  have hd0 : decide ((0 : Int) < (m : Int) + 1) = true := decide_eq_true (by omega)
  have hk0 : ((m : Int) + 1 == 0) = false := beq_eq_false_iff_ne.2 (by omega)
  have HR : Hid (countP 0 l = false) := Lib.hid (by unfold countP; rw [HM.out]; rfl)
  try clear hc
  go_enter Tryz.func75, Tryz.ntmps75
  go_wp2_with fail
  go_quiet (fail)
  have EQ := Lib.hid (HE.out.drewN nq)
  have c0 := HX.out _ EQ.out
  clear HE
  go_wp2_with fail
  go_ret
  rw [HR.out]
  exact ⟨rfl, EQ.out⟩
theorem rkids_14 (w : World) (ok : Nat → Prop) (d : Nat) (a t : ByteArray) (n : Int) (q0 : Option Addr) (n0 c9 : Nat) (q : Option Addr) (c : Nat) (l : List Nd) (h : KidsAt ok w d (.slice q l.length c) l) (hl : l.length ≤ 140737488355328) (hs : ∀ x ∈ l, In64 x.k) :
  Calls Tryz.prog 75 #[.agg #[.int .i64 14, .string a, .string t, .int .i64 n, .slice q0 n0 c9, .slice q l.length c]] w fun e w' => e = .returned (.bool (countP 0 l)) ∧ Ext w w' := by
 rcases List.eq_nil_or_concat l with rfl | ⟨l0, x, hlx⟩
 ·have HE := Lib.hid ((Ext.refl w).alloc (.cells #[.int .i64 14, .string a, .string t, .int .i64 n, .slice q0 n0 c9, .slice q 0 c] 28))
  have HK := Lib.hid h
  clear h hs
  go_enter Tryz.func75, Tryz.ntmps75
  go_wp2_with fail
  go_quiet (fail)
  have EQ := Lib.hid (HE.out.drewN nq)
  clear HE
  go_wp2_with fail
  go_ret
  exact ⟨rfl, EQ.out⟩
 ·obtain ⟨m, hm⟩ : ∃ m, l.length = m + 1 := ⟨l0.length, by rw [hlx]; simp⟩
  have kl : m < l.length := by omega
  have HK := Lib.hid h
  obtain ⟨b, o, qn, cn, ql, cl, rfl, c0, g1, g2, g3, g4, g5, g6⟩ := h.node kl
  clear g1 g2 g3 g4 g5 g6 hlx
  have hxm : l[m]? = some l[m] := List.getElem?_eq_getElem kl
  have hwk : IntKind.i64.wrap l[m].k = l[m].k := IntWalk.i64_in _ (hs _ (List.getElem_mem kl))
  obtain ⟨y, hy⟩ : ∃ y, l[m].k = y := ⟨_, rfl⟩
  rw [hy] at c0 hwk
  have HLK := Lib.hid (show (l[m]?).map Nd.k = some y by rw [hxm, ← hy]; rfl)
  rw [hm] at hl ⊢
  have HM := Lib.hid hm
  have HK2 : Hid (KidsAt ok w d (.slice (some ⟨b, o, none⟩) (m + 1) c) l) := Lib.hid (by rw [← HM.out]; exact HK.out)
  have capc := HK2.out.cap (by rw [HM.out]; omega)
  rw [HM.out] at capc
  have HX := Lib.hid (fun W (e : Ext w W) => e.cell c0)
  have HS := Lib.hid hs
  clear c0 h kl hs hy hxm hm
  have HE := Lib.hid ((Ext.refl w).alloc (.cells #[.int .i64 14, .string a, .string t, .int .i64 n, .slice q0 n0 c9, .slice (some ⟨b, o, none⟩) (m + 1) c] 28))
  have hw1 : IntKind.i64.wrap ((m : Int) + 1 - 1) = (m : Int) := by rw [IntWalk.i64_in _ (by omega)]; omega
  have hm0 : (0 : Int) ≤ (m : Int) := by omega
  have hm1 : (m : Int) < (m : Int) + 1 := by omega
  have hmx : max (0 : Int) (m : Int) = (m : Int) := by omega
  have hd0 : decide ((0 : Int) < (m : Int) + 1) = true := decide_eq_true (by omega)
  have hk0 : ((m : Int) + 1 == 0) = false := beq_eq_false_iff_ne.2 (by omega)
  have HR : Hid (countP 0 l = false) := Lib.hid (by unfold countP; rw [HM.out]; rfl)
  try clear hc
  go_enter Tryz.func75, Tryz.ntmps75
  go_wp2_with fail
  go_quiet (fail)
  have EQ := Lib.hid (HE.out.drewN nq)
  have c0 := HX.out _ EQ.out
  clear HE
  go_wp2_with fail
  go_ret
  rw [HR.out]
  exact ⟨rfl, EQ.out⟩
theorem rkids_15 (w : World) (ok : Nat → Prop) (d : Nat) (a t : ByteArray) (n : Int) (q0 : Option Addr) (n0 c9 : Nat) (q : Option Addr) (c : Nat) (l : List Nd) (h : KidsAt ok w d (.slice q l.length c) l) (hl : l.length ≤ 140737488355328) (hs : ∀ x ∈ l, In64 x.k) :
  Calls Tryz.prog 75 #[.agg #[.int .i64 15, .string a, .string t, .int .i64 n, .slice q0 n0 c9, .slice q l.length c]] w fun e w' => e = .returned (.bool (countP 0 l)) ∧ Ext w w' := by
 rcases List.eq_nil_or_concat l with rfl | ⟨l0, x, hlx⟩
 ·have HE := Lib.hid ((Ext.refl w).alloc (.cells #[.int .i64 15, .string a, .string t, .int .i64 n, .slice q0 n0 c9, .slice q 0 c] 28))
  have HK := Lib.hid h
  clear h hs
  go_enter Tryz.func75, Tryz.ntmps75
  go_wp2_with fail
  go_quiet (fail)
  have EQ := Lib.hid (HE.out.drewN nq)
  clear HE
  go_wp2_with fail
  go_ret
  exact ⟨rfl, EQ.out⟩
 ·obtain ⟨m, hm⟩ : ∃ m, l.length = m + 1 := ⟨l0.length, by rw [hlx]; simp⟩
  have kl : m < l.length := by omega
  have HK := Lib.hid h
  obtain ⟨b, o, qn, cn, ql, cl, rfl, c0, g1, g2, g3, g4, g5, g6⟩ := h.node kl
  clear g1 g2 g3 g4 g5 g6 hlx
  have hxm : l[m]? = some l[m] := List.getElem?_eq_getElem kl
  have hwk : IntKind.i64.wrap l[m].k = l[m].k := IntWalk.i64_in _ (hs _ (List.getElem_mem kl))
  obtain ⟨y, hy⟩ : ∃ y, l[m].k = y := ⟨_, rfl⟩
  rw [hy] at c0 hwk
  have HLK := Lib.hid (show (l[m]?).map Nd.k = some y by rw [hxm, ← hy]; rfl)
  rw [hm] at hl ⊢
  have HM := Lib.hid hm
  have HK2 : Hid (KidsAt ok w d (.slice (some ⟨b, o, none⟩) (m + 1) c) l) := Lib.hid (by rw [← HM.out]; exact HK.out)
  have capc := HK2.out.cap (by rw [HM.out]; omega)
  rw [HM.out] at capc
  have HX := Lib.hid (fun W (e : Ext w W) => e.cell c0)
  have HS := Lib.hid hs
  clear c0 h kl hs hy hxm hm
  have HE := Lib.hid ((Ext.refl w).alloc (.cells #[.int .i64 15, .string a, .string t, .int .i64 n, .slice q0 n0 c9, .slice (some ⟨b, o, none⟩) (m + 1) c] 28))
  have hw1 : IntKind.i64.wrap ((m : Int) + 1 - 1) = (m : Int) := by rw [IntWalk.i64_in _ (by omega)]; omega
  have hm0 : (0 : Int) ≤ (m : Int) := by omega
  have hm1 : (m : Int) < (m : Int) + 1 := by omega
  have hmx : max (0 : Int) (m : Int) = (m : Int) := by omega
  have hd0 : decide ((0 : Int) < (m : Int) + 1) = true := decide_eq_true (by omega)
  have hk0 : ((m : Int) + 1 == 0) = false := beq_eq_false_iff_ne.2 (by omega)
  have HR : Hid (countP 0 l = false) := Lib.hid (by unfold countP; rw [HM.out]; rfl)
  try clear hc
  go_enter Tryz.func75, Tryz.ntmps75
  go_wp2_with fail
  go_quiet (fail)
  have EQ := Lib.hid (HE.out.drewN nq)
  have c0 := HX.out _ EQ.out
  clear HE
  go_wp2_with fail
  go_ret
  rw [HR.out]
  exact ⟨rfl, EQ.out⟩
theorem rkids_16 (w : World) (ok : Nat → Prop) (d : Nat) (a t : ByteArray) (n : Int) (q0 : Option Addr) (n0 c9 : Nat) (q : Option Addr) (c : Nat) (l : List Nd) (h : KidsAt ok w d (.slice q l.length c) l) (hl : l.length ≤ 140737488355328) (hs : ∀ x ∈ l, In64 x.k) :
  Calls Tryz.prog 75 #[.agg #[.int .i64 16, .string a, .string t, .int .i64 n, .slice q0 n0 c9, .slice q l.length c]] w fun e w' => e = .returned (.bool (countP 2 l)) ∧ Ext w w' := by
 rcases List.eq_nil_or_concat l with rfl | ⟨l0, x, hlx⟩
 ·have HE := Lib.hid ((Ext.refl w).alloc (.cells #[.int .i64 16, .string a, .string t, .int .i64 n, .slice q0 n0 c9, .slice q 0 c] 28))
  have HK := Lib.hid h
  clear h hs
  go_enter Tryz.func75, Tryz.ntmps75
  go_wp2_with fail
  go_quiet (fail)
  have EQ := Lib.hid (HE.out.drewN nq)
  clear HE
  go_wp2_with fail
  go_ret
  exact ⟨rfl, EQ.out⟩
 ·obtain ⟨m, hm⟩ : ∃ m, l.length = m + 1 := ⟨l0.length, by rw [hlx]; simp⟩
  have kl : m < l.length := by omega
  have HK := Lib.hid h
  obtain ⟨b, o, qn, cn, ql, cl, rfl, c0, g1, g2, g3, g4, g5, g6⟩ := h.node kl
  clear g1 g2 g3 g4 g5 g6 hlx
  have hxm : l[m]? = some l[m] := List.getElem?_eq_getElem kl
  have hwk : IntKind.i64.wrap l[m].k = l[m].k := IntWalk.i64_in _ (hs _ (List.getElem_mem kl))
  obtain ⟨y, hy⟩ : ∃ y, l[m].k = y := ⟨_, rfl⟩
  rw [hy] at c0 hwk
  have HLK := Lib.hid (show (l[m]?).map Nd.k = some y by rw [hxm, ← hy]; rfl)
  rw [hm] at hl ⊢
  have HM := Lib.hid hm
  have HK2 : Hid (KidsAt ok w d (.slice (some ⟨b, o, none⟩) (m + 1) c) l) := Lib.hid (by rw [← HM.out]; exact HK.out)
  have capc := HK2.out.cap (by rw [HM.out]; omega)
  rw [HM.out] at capc
  have HX := Lib.hid (fun W (e : Ext w W) => e.cell c0)
  have HS := Lib.hid hs
  clear c0 h kl hs hy hxm hm
  have HE := Lib.hid ((Ext.refl w).alloc (.cells #[.int .i64 16, .string a, .string t, .int .i64 n, .slice q0 n0 c9, .slice (some ⟨b, o, none⟩) (m + 1) c] 28))
  have hw1 : IntKind.i64.wrap ((m : Int) + 1 - 1) = (m : Int) := by rw [IntWalk.i64_in _ (by omega)]; omega
  have hm0 : (0 : Int) ≤ (m : Int) := by omega
  have hm1 : (m : Int) < (m : Int) + 1 := by omega
  have hmx : max (0 : Int) (m : Int) = (m : Int) := by omega
  have hd0 : decide ((0 : Int) < (m : Int) + 1) = true := decide_eq_true (by omega)
  by_cases hc : m + 1 = 2
  ·have HC := Lib.hid hc
   have hk0 : ((m : Int) + 1 == 2) = true := beq_iff_eq.2 (by omega)
   try clear hc
   go_enter Tryz.func75, Tryz.ntmps75
   go_wp2_with fail
   go_quiet (fail)
   have EQ := Lib.hid (HE.out.drewN nq)
   have c0 := HX.out _ EQ.out
   clear HE
   go_wp2_with fail
   obtain ⟨bb, hbb⟩ : ∃ b, exprsP l = b := ⟨_, rfl⟩
   have HBB := Lib.hid hbb
   have cE := rexprs_any _ ok d _ l (HK2.out.ext EQ.out) (by first | (rw [HM.out]; exact hl) | (rw [List.length_take]; omega)) (fun x hx => by first | exact HS.out x hx | exact HS.out x (List.mem_of_mem_take hx))
   rw [hbb] at cE
   clear hbb
   refine cE.mono ?_
   rintro e w1 ⟨rfl, e1⟩
   have E1 := Lib.hid (EQ.out.trans e1)
   clear e1 cE
   go_wp2_with fail
   go_ret
   exact ⟨by unfold countP; rw [HBB.out, HM.out, HC.out]; rfl, E1.out⟩
  ·have hk0 : ((m : Int) + 1 == 2) = false := beq_eq_false_iff_ne.2 (by omega)
   have HR : Hid (countP 2 l = false) := Lib.hid (by unfold countP; rw [lenP l m 2 HM.out]; rw [show ((m : Int) + 1 == ((2 : Nat) : Int)) = false from hk0]; rfl)
   try clear hc
   go_enter Tryz.func75, Tryz.ntmps75
   go_wp2_with fail
   go_quiet (fail)
   have EQ := Lib.hid (HE.out.drewN nq)
   have c0 := HX.out _ EQ.out
   clear HE
   go_wp2_with fail
   go_ret
   rw [HR.out]
   exact ⟨rfl, EQ.out⟩
theorem rkids_20 (w : World) (ok : Nat → Prop) (d : Nat) (a t : ByteArray) (n : Int) (q0 : Option Addr) (n0 c9 : Nat) (q : Option Addr) (c : Nat) (l : List Nd) (h : KidsAt ok w d (.slice q l.length c) l) (hl : l.length ≤ 140737488355328) (hs : ∀ x ∈ l, In64 x.k) :
  Calls Tryz.prog 75 #[.agg #[.int .i64 20, .string a, .string t, .int .i64 n, .slice q0 n0 c9, .slice q l.length c]] w fun e w' => e = .returned (.bool (countP 2 l)) ∧ Ext w w' := by
 rcases List.eq_nil_or_concat l with rfl | ⟨l0, x, hlx⟩
 ·have HE := Lib.hid ((Ext.refl w).alloc (.cells #[.int .i64 20, .string a, .string t, .int .i64 n, .slice q0 n0 c9, .slice q 0 c] 28))
  have HK := Lib.hid h
  clear h hs
  go_enter Tryz.func75, Tryz.ntmps75
  go_wp2_with fail
  go_quiet (fail)
  have EQ := Lib.hid (HE.out.drewN nq)
  clear HE
  go_wp2_with fail
  go_ret
  exact ⟨rfl, EQ.out⟩
 ·obtain ⟨m, hm⟩ : ∃ m, l.length = m + 1 := ⟨l0.length, by rw [hlx]; simp⟩
  have kl : m < l.length := by omega
  have HK := Lib.hid h
  obtain ⟨b, o, qn, cn, ql, cl, rfl, c0, g1, g2, g3, g4, g5, g6⟩ := h.node kl
  clear g1 g2 g3 g4 g5 g6 hlx
  have hxm : l[m]? = some l[m] := List.getElem?_eq_getElem kl
  have hwk : IntKind.i64.wrap l[m].k = l[m].k := IntWalk.i64_in _ (hs _ (List.getElem_mem kl))
  obtain ⟨y, hy⟩ : ∃ y, l[m].k = y := ⟨_, rfl⟩
  rw [hy] at c0 hwk
  have HLK := Lib.hid (show (l[m]?).map Nd.k = some y by rw [hxm, ← hy]; rfl)
  rw [hm] at hl ⊢
  have HM := Lib.hid hm
  have HK2 : Hid (KidsAt ok w d (.slice (some ⟨b, o, none⟩) (m + 1) c) l) := Lib.hid (by rw [← HM.out]; exact HK.out)
  have capc := HK2.out.cap (by rw [HM.out]; omega)
  rw [HM.out] at capc
  have HX := Lib.hid (fun W (e : Ext w W) => e.cell c0)
  have HS := Lib.hid hs
  clear c0 h kl hs hy hxm hm
  have HE := Lib.hid ((Ext.refl w).alloc (.cells #[.int .i64 20, .string a, .string t, .int .i64 n, .slice q0 n0 c9, .slice (some ⟨b, o, none⟩) (m + 1) c] 28))
  have hw1 : IntKind.i64.wrap ((m : Int) + 1 - 1) = (m : Int) := by rw [IntWalk.i64_in _ (by omega)]; omega
  have hm0 : (0 : Int) ≤ (m : Int) := by omega
  have hm1 : (m : Int) < (m : Int) + 1 := by omega
  have hmx : max (0 : Int) (m : Int) = (m : Int) := by omega
  have hd0 : decide ((0 : Int) < (m : Int) + 1) = true := decide_eq_true (by omega)
  by_cases hc : m + 1 = 2
  ·have HC := Lib.hid hc
   have hk0 : ((m : Int) + 1 == 2) = true := beq_iff_eq.2 (by omega)
   try clear hc
   go_enter Tryz.func75, Tryz.ntmps75
   go_wp2_with fail
   go_quiet (fail)
   have EQ := Lib.hid (HE.out.drewN nq)
   have c0 := HX.out _ EQ.out
   clear HE
   go_wp2_with fail
   obtain ⟨bb, hbb⟩ : ∃ b, exprsP l = b := ⟨_, rfl⟩
   have HBB := Lib.hid hbb
   have cE := rexprs_any _ ok d _ l (HK2.out.ext EQ.out) (by first | (rw [HM.out]; exact hl) | (rw [List.length_take]; omega)) (fun x hx => by first | exact HS.out x hx | exact HS.out x (List.mem_of_mem_take hx))
   rw [hbb] at cE
   clear hbb
   refine cE.mono ?_
   rintro e w1 ⟨rfl, e1⟩
   have E1 := Lib.hid (EQ.out.trans e1)
   clear e1 cE
   go_wp2_with fail
   go_ret
   exact ⟨by unfold countP; rw [HBB.out, HM.out, HC.out]; rfl, E1.out⟩
  ·have hk0 : ((m : Int) + 1 == 2) = false := beq_eq_false_iff_ne.2 (by omega)
   have HR : Hid (countP 2 l = false) := Lib.hid (by unfold countP; rw [lenP l m 2 HM.out]; rw [show ((m : Int) + 1 == ((2 : Nat) : Int)) = false from hk0]; rfl)
   try clear hc
   go_enter Tryz.func75, Tryz.ntmps75
   go_wp2_with fail
   go_quiet (fail)
   have EQ := Lib.hid (HE.out.drewN nq)
   have c0 := HX.out _ EQ.out
   clear HE
   go_wp2_with fail
   go_ret
   rw [HR.out]
   exact ⟨rfl, EQ.out⟩
theorem rkids_21 (w : World) (ok : Nat → Prop) (d : Nat) (a t : ByteArray) (n : Int) (q0 : Option Addr) (n0 c9 : Nat) (q : Option Addr) (c : Nat) (l : List Nd) (h : KidsAt ok w d (.slice q l.length c) l) (hl : l.length ≤ 140737488355328) (hs : ∀ x ∈ l, In64 x.k) :
  Calls Tryz.prog 75 #[.agg #[.int .i64 21, .string a, .string t, .int .i64 n, .slice q0 n0 c9, .slice q l.length c]] w fun e w' => e = .returned (.bool (countP 2 l)) ∧ Ext w w' := by
 rcases List.eq_nil_or_concat l with rfl | ⟨l0, x, hlx⟩
 ·have HE := Lib.hid ((Ext.refl w).alloc (.cells #[.int .i64 21, .string a, .string t, .int .i64 n, .slice q0 n0 c9, .slice q 0 c] 28))
  have HK := Lib.hid h
  clear h hs
  go_enter Tryz.func75, Tryz.ntmps75
  go_wp2_with fail
  go_quiet (fail)
  have EQ := Lib.hid (HE.out.drewN nq)
  clear HE
  go_wp2_with fail
  go_ret
  exact ⟨rfl, EQ.out⟩
 ·obtain ⟨m, hm⟩ : ∃ m, l.length = m + 1 := ⟨l0.length, by rw [hlx]; simp⟩
  have kl : m < l.length := by omega
  have HK := Lib.hid h
  obtain ⟨b, o, qn, cn, ql, cl, rfl, c0, g1, g2, g3, g4, g5, g6⟩ := h.node kl
  clear g1 g2 g3 g4 g5 g6 hlx
  have hxm : l[m]? = some l[m] := List.getElem?_eq_getElem kl
  have hwk : IntKind.i64.wrap l[m].k = l[m].k := IntWalk.i64_in _ (hs _ (List.getElem_mem kl))
  obtain ⟨y, hy⟩ : ∃ y, l[m].k = y := ⟨_, rfl⟩
  rw [hy] at c0 hwk
  have HLK := Lib.hid (show (l[m]?).map Nd.k = some y by rw [hxm, ← hy]; rfl)
  rw [hm] at hl ⊢
  have HM := Lib.hid hm
  have HK2 : Hid (KidsAt ok w d (.slice (some ⟨b, o, none⟩) (m + 1) c) l) := Lib.hid (by rw [← HM.out]; exact HK.out)
  have capc := HK2.out.cap (by rw [HM.out]; omega)
  rw [HM.out] at capc
  have HX := Lib.hid (fun W (e : Ext w W) => e.cell c0)
  have HS := Lib.hid hs
  clear c0 h kl hs hy hxm hm
  have HE := Lib.hid ((Ext.refl w).alloc (.cells #[.int .i64 21, .string a, .string t, .int .i64 n, .slice q0 n0 c9, .slice (some ⟨b, o, none⟩) (m + 1) c] 28))
  have hw1 : IntKind.i64.wrap ((m : Int) + 1 - 1) = (m : Int) := by rw [IntWalk.i64_in _ (by omega)]; omega
  have hm0 : (0 : Int) ≤ (m : Int) := by omega
  have hm1 : (m : Int) < (m : Int) + 1 := by omega
  have hmx : max (0 : Int) (m : Int) = (m : Int) := by omega
  have hd0 : decide ((0 : Int) < (m : Int) + 1) = true := decide_eq_true (by omega)
  by_cases hc : m + 1 = 2
  ·have HC := Lib.hid hc
   have hk0 : ((m : Int) + 1 == 2) = true := beq_iff_eq.2 (by omega)
   try clear hc
   go_enter Tryz.func75, Tryz.ntmps75
   go_wp2_with fail
   go_quiet (fail)
   have EQ := Lib.hid (HE.out.drewN nq)
   have c0 := HX.out _ EQ.out
   clear HE
   go_wp2_with fail
   obtain ⟨bb, hbb⟩ : ∃ b, exprsP l = b := ⟨_, rfl⟩
   have HBB := Lib.hid hbb
   have cE := rexprs_any _ ok d _ l (HK2.out.ext EQ.out) (by first | (rw [HM.out]; exact hl) | (rw [List.length_take]; omega)) (fun x hx => by first | exact HS.out x hx | exact HS.out x (List.mem_of_mem_take hx))
   rw [hbb] at cE
   clear hbb
   refine cE.mono ?_
   rintro e w1 ⟨rfl, e1⟩
   have E1 := Lib.hid (EQ.out.trans e1)
   clear e1 cE
   go_wp2_with fail
   go_ret
   exact ⟨by unfold countP; rw [HBB.out, HM.out, HC.out]; rfl, E1.out⟩
  ·have hk0 : ((m : Int) + 1 == 2) = false := beq_eq_false_iff_ne.2 (by omega)
   have HR : Hid (countP 2 l = false) := Lib.hid (by unfold countP; rw [lenP l m 2 HM.out]; rw [show ((m : Int) + 1 == ((2 : Nat) : Int)) = false from hk0]; rfl)
   try clear hc
   go_enter Tryz.func75, Tryz.ntmps75
   go_wp2_with fail
   go_quiet (fail)
   have EQ := Lib.hid (HE.out.drewN nq)
   have c0 := HX.out _ EQ.out
   clear HE
   go_wp2_with fail
   go_ret
   rw [HR.out]
   exact ⟨rfl, EQ.out⟩
theorem rkids_19 (w : World) (ok : Nat → Prop) (d : Nat) (a t : ByteArray) (n : Int) (q0 : Option Addr) (n0 c9 : Nat) (q : Option Addr) (c : Nat) (l : List Nd) (h : KidsAt ok w d (.slice q l.length c) l) (hl : l.length ≤ 140737488355328) (hs : ∀ x ∈ l, In64 x.k) :
  Calls Tryz.prog 75 #[.agg #[.int .i64 19, .string a, .string t, .int .i64 n, .slice q0 n0 c9, .slice q l.length c]] w fun e w' => e = .returned (.bool (countP 1 l)) ∧ Ext w w' := by
 rcases List.eq_nil_or_concat l with rfl | ⟨l0, x, hlx⟩
 ·have HE := Lib.hid ((Ext.refl w).alloc (.cells #[.int .i64 19, .string a, .string t, .int .i64 n, .slice q0 n0 c9, .slice q 0 c] 28))
  have HK := Lib.hid h
  clear h hs
  go_enter Tryz.func75, Tryz.ntmps75
  go_wp2_with fail
  go_quiet (fail)
  have EQ := Lib.hid (HE.out.drewN nq)
  clear HE
  go_wp2_with fail
  go_ret
  exact ⟨rfl, EQ.out⟩
 ·obtain ⟨m, hm⟩ : ∃ m, l.length = m + 1 := ⟨l0.length, by rw [hlx]; simp⟩
  have kl : m < l.length := by omega
  have HK := Lib.hid h
  obtain ⟨b, o, qn, cn, ql, cl, rfl, c0, g1, g2, g3, g4, g5, g6⟩ := h.node kl
  clear g1 g2 g3 g4 g5 g6 hlx
  have hxm : l[m]? = some l[m] := List.getElem?_eq_getElem kl
  have hwk : IntKind.i64.wrap l[m].k = l[m].k := IntWalk.i64_in _ (hs _ (List.getElem_mem kl))
  obtain ⟨y, hy⟩ : ∃ y, l[m].k = y := ⟨_, rfl⟩
  rw [hy] at c0 hwk
  have HLK := Lib.hid (show (l[m]?).map Nd.k = some y by rw [hxm, ← hy]; rfl)
  rw [hm] at hl ⊢
  have HM := Lib.hid hm
  have HK2 : Hid (KidsAt ok w d (.slice (some ⟨b, o, none⟩) (m + 1) c) l) := Lib.hid (by rw [← HM.out]; exact HK.out)
  have capc := HK2.out.cap (by rw [HM.out]; omega)
  rw [HM.out] at capc
  have HX := Lib.hid (fun W (e : Ext w W) => e.cell c0)
  have HS := Lib.hid hs
  clear c0 h kl hs hy hxm hm
  have HE := Lib.hid ((Ext.refl w).alloc (.cells #[.int .i64 19, .string a, .string t, .int .i64 n, .slice q0 n0 c9, .slice (some ⟨b, o, none⟩) (m + 1) c] 28))
  have hw1 : IntKind.i64.wrap ((m : Int) + 1 - 1) = (m : Int) := by rw [IntWalk.i64_in _ (by omega)]; omega
  have hm0 : (0 : Int) ≤ (m : Int) := by omega
  have hm1 : (m : Int) < (m : Int) + 1 := by omega
  have hmx : max (0 : Int) (m : Int) = (m : Int) := by omega
  have hd0 : decide ((0 : Int) < (m : Int) + 1) = true := decide_eq_true (by omega)
  by_cases hc : m + 1 = 1
  ·have HC := Lib.hid hc
   have hk0 : ((m : Int) + 1 == 1) = true := beq_iff_eq.2 (by omega)
   try clear hc
   go_enter Tryz.func75, Tryz.ntmps75
   go_wp2_with fail
   go_quiet (fail)
   have EQ := Lib.hid (HE.out.drewN nq)
   have c0 := HX.out _ EQ.out
   clear HE
   go_wp2_with fail
   obtain ⟨bb, hbb⟩ : ∃ b, exprsP l = b := ⟨_, rfl⟩
   have HBB := Lib.hid hbb
   have cE := rexprs_any _ ok d _ l (HK2.out.ext EQ.out) (by first | (rw [HM.out]; exact hl) | (rw [List.length_take]; omega)) (fun x hx => by first | exact HS.out x hx | exact HS.out x (List.mem_of_mem_take hx))
   rw [hbb] at cE
   clear hbb
   refine cE.mono ?_
   rintro e w1 ⟨rfl, e1⟩
   have E1 := Lib.hid (EQ.out.trans e1)
   clear e1 cE
   go_wp2_with fail
   go_ret
   exact ⟨by unfold countP; rw [HBB.out, HM.out, HC.out]; rfl, E1.out⟩
  ·have hk0 : ((m : Int) + 1 == 1) = false := beq_eq_false_iff_ne.2 (by omega)
   have HR : Hid (countP 1 l = false) := Lib.hid (by unfold countP; rw [lenP l m 1 HM.out]; rw [show ((m : Int) + 1 == ((1 : Nat) : Int)) = false from hk0]; rfl)
   try clear hc
   go_enter Tryz.func75, Tryz.ntmps75
   go_wp2_with fail
   go_quiet (fail)
   have EQ := Lib.hid (HE.out.drewN nq)
   have c0 := HX.out _ EQ.out
   clear HE
   go_wp2_with fail
   go_ret
   rw [HR.out]
   exact ⟨rfl, EQ.out⟩
theorem rkids_22 (w : World) (ok : Nat → Prop) (d : Nat) (a t : ByteArray) (n : Int) (q0 : Option Addr) (n0 c9 : Nat) (q : Option Addr) (c : Nat) (l : List Nd) (h : KidsAt ok w d (.slice q l.length c) l) (hl : l.length ≤ 140737488355328) (hs : ∀ x ∈ l, In64 x.k) :
  Calls Tryz.prog 75 #[.agg #[.int .i64 22, .string a, .string t, .int .i64 n, .slice q0 n0 c9, .slice q l.length c]] w fun e w' => e = .returned (.bool (countP 1 l)) ∧ Ext w w' := by
 rcases List.eq_nil_or_concat l with rfl | ⟨l0, x, hlx⟩
 ·have HE := Lib.hid ((Ext.refl w).alloc (.cells #[.int .i64 22, .string a, .string t, .int .i64 n, .slice q0 n0 c9, .slice q 0 c] 28))
  have HK := Lib.hid h
  clear h hs
  go_enter Tryz.func75, Tryz.ntmps75
  go_wp2_with fail
  go_quiet (fail)
  have EQ := Lib.hid (HE.out.drewN nq)
  clear HE
  go_wp2_with fail
  go_ret
  exact ⟨rfl, EQ.out⟩
 ·obtain ⟨m, hm⟩ : ∃ m, l.length = m + 1 := ⟨l0.length, by rw [hlx]; simp⟩
  have kl : m < l.length := by omega
  have HK := Lib.hid h
  obtain ⟨b, o, qn, cn, ql, cl, rfl, c0, g1, g2, g3, g4, g5, g6⟩ := h.node kl
  clear g1 g2 g3 g4 g5 g6 hlx
  have hxm : l[m]? = some l[m] := List.getElem?_eq_getElem kl
  have hwk : IntKind.i64.wrap l[m].k = l[m].k := IntWalk.i64_in _ (hs _ (List.getElem_mem kl))
  obtain ⟨y, hy⟩ : ∃ y, l[m].k = y := ⟨_, rfl⟩
  rw [hy] at c0 hwk
  have HLK := Lib.hid (show (l[m]?).map Nd.k = some y by rw [hxm, ← hy]; rfl)
  rw [hm] at hl ⊢
  have HM := Lib.hid hm
  have HK2 : Hid (KidsAt ok w d (.slice (some ⟨b, o, none⟩) (m + 1) c) l) := Lib.hid (by rw [← HM.out]; exact HK.out)
  have capc := HK2.out.cap (by rw [HM.out]; omega)
  rw [HM.out] at capc
  have HX := Lib.hid (fun W (e : Ext w W) => e.cell c0)
  have HS := Lib.hid hs
  clear c0 h kl hs hy hxm hm
  have HE := Lib.hid ((Ext.refl w).alloc (.cells #[.int .i64 22, .string a, .string t, .int .i64 n, .slice q0 n0 c9, .slice (some ⟨b, o, none⟩) (m + 1) c] 28))
  have hw1 : IntKind.i64.wrap ((m : Int) + 1 - 1) = (m : Int) := by rw [IntWalk.i64_in _ (by omega)]; omega
  have hm0 : (0 : Int) ≤ (m : Int) := by omega
  have hm1 : (m : Int) < (m : Int) + 1 := by omega
  have hmx : max (0 : Int) (m : Int) = (m : Int) := by omega
  have hd0 : decide ((0 : Int) < (m : Int) + 1) = true := decide_eq_true (by omega)
  by_cases hc : m + 1 = 1
  ·have HC := Lib.hid hc
   have hk0 : ((m : Int) + 1 == 1) = true := beq_iff_eq.2 (by omega)
   try clear hc
   go_enter Tryz.func75, Tryz.ntmps75
   go_wp2_with fail
   go_quiet (fail)
   have EQ := Lib.hid (HE.out.drewN nq)
   have c0 := HX.out _ EQ.out
   clear HE
   go_wp2_with fail
   obtain ⟨bb, hbb⟩ : ∃ b, exprsP l = b := ⟨_, rfl⟩
   have HBB := Lib.hid hbb
   have cE := rexprs_any _ ok d _ l (HK2.out.ext EQ.out) (by first | (rw [HM.out]; exact hl) | (rw [List.length_take]; omega)) (fun x hx => by first | exact HS.out x hx | exact HS.out x (List.mem_of_mem_take hx))
   rw [hbb] at cE
   clear hbb
   refine cE.mono ?_
   rintro e w1 ⟨rfl, e1⟩
   have E1 := Lib.hid (EQ.out.trans e1)
   clear e1 cE
   go_wp2_with fail
   go_ret
   exact ⟨by unfold countP; rw [HBB.out, HM.out, HC.out]; rfl, E1.out⟩
  ·have hk0 : ((m : Int) + 1 == 1) = false := beq_eq_false_iff_ne.2 (by omega)
   have HR : Hid (countP 1 l = false) := Lib.hid (by unfold countP; rw [lenP l m 1 HM.out]; rw [show ((m : Int) + 1 == ((1 : Nat) : Int)) = false from hk0]; rfl)
   try clear hc
   go_enter Tryz.func75, Tryz.ntmps75
   go_wp2_with fail
   go_quiet (fail)
   have EQ := Lib.hid (HE.out.drewN nq)
   have c0 := HX.out _ EQ.out
   clear HE
   go_wp2_with fail
   go_ret
   rw [HR.out]
   exact ⟨rfl, EQ.out⟩
theorem rkids_23 (w : World) (ok : Nat → Prop) (d : Nat) (a t : ByteArray) (n : Int) (q0 : Option Addr) (n0 c9 : Nat) (q : Option Addr) (c : Nat) (l : List Nd) (h : KidsAt ok w d (.slice q l.length c) l) (hl : l.length ≤ 140737488355328) (hs : ∀ x ∈ l, In64 x.k) :
  Calls Tryz.prog 75 #[.agg #[.int .i64 23, .string a, .string t, .int .i64 n, .slice q0 n0 c9, .slice q l.length c]] w fun e w' => e = .returned (.bool (countP 1 l)) ∧ Ext w w' := by
 rcases List.eq_nil_or_concat l with rfl | ⟨l0, x, hlx⟩
 ·have HE := Lib.hid ((Ext.refl w).alloc (.cells #[.int .i64 23, .string a, .string t, .int .i64 n, .slice q0 n0 c9, .slice q 0 c] 28))
  have HK := Lib.hid h
  clear h hs
  go_enter Tryz.func75, Tryz.ntmps75
  go_wp2_with fail
  go_quiet (fail)
  have EQ := Lib.hid (HE.out.drewN nq)
  clear HE
  go_wp2_with fail
  go_ret
  exact ⟨rfl, EQ.out⟩
 ·obtain ⟨m, hm⟩ : ∃ m, l.length = m + 1 := ⟨l0.length, by rw [hlx]; simp⟩
  have kl : m < l.length := by omega
  have HK := Lib.hid h
  obtain ⟨b, o, qn, cn, ql, cl, rfl, c0, g1, g2, g3, g4, g5, g6⟩ := h.node kl
  clear g1 g2 g3 g4 g5 g6 hlx
  have hxm : l[m]? = some l[m] := List.getElem?_eq_getElem kl
  have hwk : IntKind.i64.wrap l[m].k = l[m].k := IntWalk.i64_in _ (hs _ (List.getElem_mem kl))
  obtain ⟨y, hy⟩ : ∃ y, l[m].k = y := ⟨_, rfl⟩
  rw [hy] at c0 hwk
  have HLK := Lib.hid (show (l[m]?).map Nd.k = some y by rw [hxm, ← hy]; rfl)
  rw [hm] at hl ⊢
  have HM := Lib.hid hm
  have HK2 : Hid (KidsAt ok w d (.slice (some ⟨b, o, none⟩) (m + 1) c) l) := Lib.hid (by rw [← HM.out]; exact HK.out)
  have capc := HK2.out.cap (by rw [HM.out]; omega)
  rw [HM.out] at capc
  have HX := Lib.hid (fun W (e : Ext w W) => e.cell c0)
  have HS := Lib.hid hs
  clear c0 h kl hs hy hxm hm
  have HE := Lib.hid ((Ext.refl w).alloc (.cells #[.int .i64 23, .string a, .string t, .int .i64 n, .slice q0 n0 c9, .slice (some ⟨b, o, none⟩) (m + 1) c] 28))
  have hw1 : IntKind.i64.wrap ((m : Int) + 1 - 1) = (m : Int) := by rw [IntWalk.i64_in _ (by omega)]; omega
  have hm0 : (0 : Int) ≤ (m : Int) := by omega
  have hm1 : (m : Int) < (m : Int) + 1 := by omega
  have hmx : max (0 : Int) (m : Int) = (m : Int) := by omega
  have hd0 : decide ((0 : Int) < (m : Int) + 1) = true := decide_eq_true (by omega)
  by_cases hc : m + 1 = 1
  ·have HC := Lib.hid hc
   have hk0 : ((m : Int) + 1 == 1) = true := beq_iff_eq.2 (by omega)
   try clear hc
   go_enter Tryz.func75, Tryz.ntmps75
   go_wp2_with fail
   go_quiet (fail)
   have EQ := Lib.hid (HE.out.drewN nq)
   have c0 := HX.out _ EQ.out
   clear HE
   go_wp2_with fail
   obtain ⟨bb, hbb⟩ : ∃ b, exprsP l = b := ⟨_, rfl⟩
   have HBB := Lib.hid hbb
   have cE := rexprs_any _ ok d _ l (HK2.out.ext EQ.out) (by first | (rw [HM.out]; exact hl) | (rw [List.length_take]; omega)) (fun x hx => by first | exact HS.out x hx | exact HS.out x (List.mem_of_mem_take hx))
   rw [hbb] at cE
   clear hbb
   refine cE.mono ?_
   rintro e w1 ⟨rfl, e1⟩
   have E1 := Lib.hid (EQ.out.trans e1)
   clear e1 cE
   go_wp2_with fail
   go_ret
   exact ⟨by unfold countP; rw [HBB.out, HM.out, HC.out]; rfl, E1.out⟩
  ·have hk0 : ((m : Int) + 1 == 1) = false := beq_eq_false_iff_ne.2 (by omega)
   have HR : Hid (countP 1 l = false) := Lib.hid (by unfold countP; rw [lenP l m 1 HM.out]; rw [show ((m : Int) + 1 == ((1 : Nat) : Int)) = false from hk0]; rfl)
   try clear hc
   go_enter Tryz.func75, Tryz.ntmps75
   go_wp2_with fail
   go_quiet (fail)
   have EQ := Lib.hid (HE.out.drewN nq)
   have c0 := HX.out _ EQ.out
   clear HE
   go_wp2_with fail
   go_ret
   rw [HR.out]
   exact ⟨rfl, EQ.out⟩
theorem rkids_24 (w : World) (ok : Nat → Prop) (d : Nat) (a t : ByteArray) (n : Int) (q0 : Option Addr) (n0 c9 : Nat) (q : Option Addr) (c : Nat) (l : List Nd) (h : KidsAt ok w d (.slice q l.length c) l) (hl : l.length ≤ 140737488355328) (hs : ∀ x ∈ l, In64 x.k) :
  Calls Tryz.prog 75 #[.agg #[.int .i64 24, .string a, .string t, .int .i64 n, .slice q0 n0 c9, .slice q l.length c]] w fun e w' => e = .returned (.bool (countP 1 l)) ∧ Ext w w' := by
 rcases List.eq_nil_or_concat l with rfl | ⟨l0, x, hlx⟩
 ·have HE := Lib.hid ((Ext.refl w).alloc (.cells #[.int .i64 24, .string a, .string t, .int .i64 n, .slice q0 n0 c9, .slice q 0 c] 28))
  have HK := Lib.hid h
  clear h hs
  go_enter Tryz.func75, Tryz.ntmps75
  go_wp2_with fail
  go_quiet (fail)
  have EQ := Lib.hid (HE.out.drewN nq)
  clear HE
  go_wp2_with fail
  go_ret
  exact ⟨rfl, EQ.out⟩
 ·obtain ⟨m, hm⟩ : ∃ m, l.length = m + 1 := ⟨l0.length, by rw [hlx]; simp⟩
  have kl : m < l.length := by omega
  have HK := Lib.hid h
  obtain ⟨b, o, qn, cn, ql, cl, rfl, c0, g1, g2, g3, g4, g5, g6⟩ := h.node kl
  clear g1 g2 g3 g4 g5 g6 hlx
  have hxm : l[m]? = some l[m] := List.getElem?_eq_getElem kl
  have hwk : IntKind.i64.wrap l[m].k = l[m].k := IntWalk.i64_in _ (hs _ (List.getElem_mem kl))
  obtain ⟨y, hy⟩ : ∃ y, l[m].k = y := ⟨_, rfl⟩
  rw [hy] at c0 hwk
  have HLK := Lib.hid (show (l[m]?).map Nd.k = some y by rw [hxm, ← hy]; rfl)
  rw [hm] at hl ⊢
  have HM := Lib.hid hm
  have HK2 : Hid (KidsAt ok w d (.slice (some ⟨b, o, none⟩) (m + 1) c) l) := Lib.hid (by rw [← HM.out]; exact HK.out)
  have capc := HK2.out.cap (by rw [HM.out]; omega)
  rw [HM.out] at capc
  have HX := Lib.hid (fun W (e : Ext w W) => e.cell c0)
  have HS := Lib.hid hs
  clear c0 h kl hs hy hxm hm
  have HE := Lib.hid ((Ext.refl w).alloc (.cells #[.int .i64 24, .string a, .string t, .int .i64 n, .slice q0 n0 c9, .slice (some ⟨b, o, none⟩) (m + 1) c] 28))
  have hw1 : IntKind.i64.wrap ((m : Int) + 1 - 1) = (m : Int) := by rw [IntWalk.i64_in _ (by omega)]; omega
  have hm0 : (0 : Int) ≤ (m : Int) := by omega
  have hm1 : (m : Int) < (m : Int) + 1 := by omega
  have hmx : max (0 : Int) (m : Int) = (m : Int) := by omega
  have hd0 : decide ((0 : Int) < (m : Int) + 1) = true := decide_eq_true (by omega)
  by_cases hc : m + 1 = 1
  ·have HC := Lib.hid hc
   have hk0 : ((m : Int) + 1 == 1) = true := beq_iff_eq.2 (by omega)
   try clear hc
   go_enter Tryz.func75, Tryz.ntmps75
   go_wp2_with fail
   go_quiet (fail)
   have EQ := Lib.hid (HE.out.drewN nq)
   have c0 := HX.out _ EQ.out
   clear HE
   go_wp2_with fail
   obtain ⟨bb, hbb⟩ : ∃ b, exprsP l = b := ⟨_, rfl⟩
   have HBB := Lib.hid hbb
   have cE := rexprs_any _ ok d _ l (HK2.out.ext EQ.out) (by first | (rw [HM.out]; exact hl) | (rw [List.length_take]; omega)) (fun x hx => by first | exact HS.out x hx | exact HS.out x (List.mem_of_mem_take hx))
   rw [hbb] at cE
   clear hbb
   refine cE.mono ?_
   rintro e w1 ⟨rfl, e1⟩
   have E1 := Lib.hid (EQ.out.trans e1)
   clear e1 cE
   go_wp2_with fail
   go_ret
   exact ⟨by unfold countP; rw [HBB.out, HM.out, HC.out]; rfl, E1.out⟩
  ·have hk0 : ((m : Int) + 1 == 1) = false := beq_eq_false_iff_ne.2 (by omega)
   have HR : Hid (countP 1 l = false) := Lib.hid (by unfold countP; rw [lenP l m 1 HM.out]; rw [show ((m : Int) + 1 == ((1 : Nat) : Int)) = false from hk0]; rfl)
   try clear hc
   go_enter Tryz.func75, Tryz.ntmps75
   go_wp2_with fail
   go_quiet (fail)
   have EQ := Lib.hid (HE.out.drewN nq)
   have c0 := HX.out _ EQ.out
   clear HE
   go_wp2_with fail
   go_ret
   rw [HR.out]
   exact ⟨rfl, EQ.out⟩
theorem rkids_17 (w : World) (ok : Nat → Prop) (d : Nat) (a t : ByteArray) (n : Int) (q0 : Option Addr) (n0 c9 : Nat) (q : Option Addr) (c : Nat) (l : List Nd) (h : KidsAt ok w d (.slice q l.length c) l) (hl : l.length ≤ 140737488355328) (hs : ∀ x ∈ l, In64 x.k) :
  Calls Tryz.prog 75 #[.agg #[.int .i64 17, .string a, .string t, .int .i64 n, .slice q0 n0 c9, .slice q l.length c]] w fun e w' => e = .returned (.bool (exprsP l)) ∧ Ext w w' := by
 rcases List.eq_nil_or_concat l with rfl | ⟨l0, x, hlx⟩
 ·have HE := Lib.hid ((Ext.refl w).alloc (.cells #[.int .i64 17, .string a, .string t, .int .i64 n, .slice q0 n0 c9, .slice q 0 c] 28))
  have HK := Lib.hid h
  clear h hs
  go_enter Tryz.func75, Tryz.ntmps75
  go_wp2_with fail
  go_quiet (fail)
  have EQ := Lib.hid (HE.out.drewN nq)
  clear HE
  go_wp2_with fail
  refine (rexprs_any _ ok d _ _ (HK.out.ext EQ.out) (by simp) (fun x hx => by simp at hx)).mono ?_
  rintro e w1 ⟨rfl, e1⟩
  have E1 := Lib.hid (EQ.out.trans e1)
  clear e1
  go_wp2_with fail
  go_ret
  exact ⟨rfl, E1.out⟩
 ·obtain ⟨m, hm⟩ : ∃ m, l.length = m + 1 := ⟨l0.length, by rw [hlx]; simp⟩
  have kl : m < l.length := by omega
  have HK := Lib.hid h
  obtain ⟨b, o, qn, cn, ql, cl, rfl, c0, g1, g2, g3, g4, g5, g6⟩ := h.node kl
  clear g1 g2 g3 g4 g5 g6 hlx
  have hxm : l[m]? = some l[m] := List.getElem?_eq_getElem kl
  have hwk : IntKind.i64.wrap l[m].k = l[m].k := IntWalk.i64_in _ (hs _ (List.getElem_mem kl))
  obtain ⟨y, hy⟩ : ∃ y, l[m].k = y := ⟨_, rfl⟩
  rw [hy] at c0 hwk
  have HLK := Lib.hid (show (l[m]?).map Nd.k = some y by rw [hxm, ← hy]; rfl)
  rw [hm] at hl ⊢
  have HM := Lib.hid hm
  have HK2 : Hid (KidsAt ok w d (.slice (some ⟨b, o, none⟩) (m + 1) c) l) := Lib.hid (by rw [← HM.out]; exact HK.out)
  have capc := HK2.out.cap (by rw [HM.out]; omega)
  rw [HM.out] at capc
  have HX := Lib.hid (fun W (e : Ext w W) => e.cell c0)
  have HS := Lib.hid hs
  clear c0 h kl hs hy hxm hm
  have HE := Lib.hid ((Ext.refl w).alloc (.cells #[.int .i64 17, .string a, .string t, .int .i64 n, .slice q0 n0 c9, .slice (some ⟨b, o, none⟩) (m + 1) c] 28))
  have hw1 : IntKind.i64.wrap ((m : Int) + 1 - 1) = (m : Int) := by rw [IntWalk.i64_in _ (by omega)]; omega
  have hm0 : (0 : Int) ≤ (m : Int) := by omega
  have hm1 : (m : Int) < (m : Int) + 1 := by omega
  have hmx : max (0 : Int) (m : Int) = (m : Int) := by omega
  have hd0 : decide ((0 : Int) < (m : Int) + 1) = true := decide_eq_true (by omega)
  try clear hc
  go_enter Tryz.func75, Tryz.ntmps75
  go_wp2_with fail
  go_quiet (fail)
  have EQ := Lib.hid (HE.out.drewN nq)
  have c0 := HX.out _ EQ.out
  clear HE
  go_wp2_with fail
  obtain ⟨bb, hbb⟩ : ∃ b, exprsP l = b := ⟨_, rfl⟩
  have HBB := Lib.hid hbb
  have cE := rexprs_any _ ok d _ l (HK2.out.ext EQ.out) (by first | (rw [HM.out]; exact hl) | (rw [List.length_take]; omega)) (fun x hx => by first | exact HS.out x hx | exact HS.out x (List.mem_of_mem_take hx))
  rw [hbb] at cE
  clear hbb
  refine cE.mono ?_
  rintro e w1 ⟨rfl, e1⟩
  have E1 := Lib.hid (EQ.out.trans e1)
  clear e1 cE
  go_wp2_with fail
  go_ret
  exact ⟨by rw [HBB.out]; rfl, E1.out⟩
theorem rkids_7 (w : World) (ok : Nat → Prop) (d : Nat) (a t : ByteArray) (n : Int) (q0 : Option Addr) (n0 c9 : Nat) (q : Option Addr) (c : Nat) (l : List Nd) (h : KidsAt ok w d (.slice q l.length c) l) (hl : l.length ≤ 140737488355328) (hs : ∀ x ∈ l, In64 x.k) :
  Calls Tryz.prog 75 #[.agg #[.int .i64 7, .string a, .string t, .int .i64 n, .slice q0 n0 c9, .slice q l.length c]] w fun e w' => e = .returned (.bool (decide (l.length ≤ 1) && exprsP l)) ∧ Ext w w' := by
 rcases List.eq_nil_or_concat l with rfl | ⟨l0, x, hlx⟩
 ·have HE := Lib.hid ((Ext.refl w).alloc (.cells #[.int .i64 7, .string a, .string t, .int .i64 n, .slice q0 n0 c9, .slice q 0 c] 28))
  have HK := Lib.hid h
  clear h hs
  go_enter Tryz.func75, Tryz.ntmps75
  go_wp2_with fail
  go_quiet (fail)
  have EQ := Lib.hid (HE.out.drewN nq)
  clear HE
  go_wp2_with fail
  refine (rexprs_any _ ok d _ _ (HK.out.ext EQ.out) (by simp) (fun x hx => by simp at hx)).mono ?_
  rintro e w1 ⟨rfl, e1⟩
  have E1 := Lib.hid (EQ.out.trans e1)
  clear e1
  go_wp2_with fail
  go_ret
  exact ⟨rfl, E1.out⟩
 ·obtain ⟨m, hm⟩ : ∃ m, l.length = m + 1 := ⟨l0.length, by rw [hlx]; simp⟩
  have kl : m < l.length := by omega
  have HK := Lib.hid h
  obtain ⟨b, o, qn, cn, ql, cl, rfl, c0, g1, g2, g3, g4, g5, g6⟩ := h.node kl
  clear g1 g2 g3 g4 g5 g6 hlx
  have hxm : l[m]? = some l[m] := List.getElem?_eq_getElem kl
  have hwk : IntKind.i64.wrap l[m].k = l[m].k := IntWalk.i64_in _ (hs _ (List.getElem_mem kl))
  obtain ⟨y, hy⟩ : ∃ y, l[m].k = y := ⟨_, rfl⟩
  rw [hy] at c0 hwk
  have HLK := Lib.hid (show (l[m]?).map Nd.k = some y by rw [hxm, ← hy]; rfl)
  rw [hm] at hl ⊢
  have HM := Lib.hid hm
  have HK2 : Hid (KidsAt ok w d (.slice (some ⟨b, o, none⟩) (m + 1) c) l) := Lib.hid (by rw [← HM.out]; exact HK.out)
  have capc := HK2.out.cap (by rw [HM.out]; omega)
  rw [HM.out] at capc
  have HX := Lib.hid (fun W (e : Ext w W) => e.cell c0)
  have HS := Lib.hid hs
  clear c0 h kl hs hy hxm hm
  have HE := Lib.hid ((Ext.refl w).alloc (.cells #[.int .i64 7, .string a, .string t, .int .i64 n, .slice q0 n0 c9, .slice (some ⟨b, o, none⟩) (m + 1) c] 28))
  have hw1 : IntKind.i64.wrap ((m : Int) + 1 - 1) = (m : Int) := by rw [IntWalk.i64_in _ (by omega)]; omega
  have hm0 : (0 : Int) ≤ (m : Int) := by omega
  have hm1 : (m : Int) < (m : Int) + 1 := by omega
  have hmx : max (0 : Int) (m : Int) = (m : Int) := by omega
  have hd0 : decide ((0 : Int) < (m : Int) + 1) = true := decide_eq_true (by omega)
  by_cases hc : m = 0
  ·have HC := Lib.hid hc
   have hk0 : decide ((m : Int) + 1 ≤ 1) = true := decide_eq_true (by omega)
   try clear hc
   go_enter Tryz.func75, Tryz.ntmps75
   go_wp2_with fail
   go_quiet (fail)
   have EQ := Lib.hid (HE.out.drewN nq)
   have c0 := HX.out _ EQ.out
   clear HE
   go_wp2_with fail
   obtain ⟨bb, hbb⟩ : ∃ b, exprsP l = b := ⟨_, rfl⟩
   have HBB := Lib.hid hbb
   have cE := rexprs_any _ ok d _ l (HK2.out.ext EQ.out) (by first | (rw [HM.out]; exact hl) | (rw [List.length_take]; omega)) (fun x hx => by first | exact HS.out x hx | exact HS.out x (List.mem_of_mem_take hx))
   rw [hbb] at cE
   clear hbb
   refine cE.mono ?_
   rintro e w1 ⟨rfl, e1⟩
   have E1 := Lib.hid (EQ.out.trans e1)
   clear e1 cE
   go_wp2_with fail
   go_ret
   exact ⟨by rw [HBB.out, HC.out]; rfl, E1.out⟩
  ·have hk0 : decide ((m : Int) + 1 ≤ 1) = false := decide_eq_false (by omega)
   have HR : Hid (decide (m + 1 ≤ 1) = false) := Lib.hid (decide_eq_false (by omega))
   try clear hc
   go_enter Tryz.func75, Tryz.ntmps75
   go_wp2_with fail
   go_quiet (fail)
   have EQ := Lib.hid (HE.out.drewN nq)
   have c0 := HX.out _ EQ.out
   clear HE
   go_wp2_with fail
   go_ret
   rw [HR.out]
   exact ⟨rfl, EQ.out⟩
theorem rkids_1 (w : World) (ok : Nat → Prop) (d : Nat) (a t : ByteArray) (n : Int) (q0 : Option Addr) (n0 c9 : Nat) (q : Option Addr) (c : Nat) (l : List Nd) (h : KidsAt ok w d (.slice q l.length c) l) (hl : l.length ≤ 140737488355328) (hs : ∀ x ∈ l, In64 x.k) :
  Calls Tryz.prog 75 #[.agg #[.int .i64 1, .string a, .string t, .int .i64 n, .slice q0 n0 c9, .slice q l.length c]] w fun e w' => e = .returned (.bool (exprsP l && decide (l.length ≤ n0))) ∧ Ext w w' := by
 rcases List.eq_nil_or_concat l with rfl | ⟨l0, x, hlx⟩
 ·have HE := Lib.hid ((Ext.refl w).alloc (.cells #[.int .i64 1, .string a, .string t, .int .i64 n, .slice q0 n0 c9, .slice q 0 c] 28))
  have HK := Lib.hid h
  clear h hs
  go_enter Tryz.func75, Tryz.ntmps75
  go_wp2_with fail
  go_quiet (fail)
  have EQ := Lib.hid (HE.out.drewN nq)
  clear HE
  have HB := Lib.hid (fun W (e : Ext _ W) => ((Blk.new w 28 #[.int .i64 1, .string a, .string t, .int .i64 n, .slice q0 n0 c9, .slice q 0 c]).ext e).cell 4)
  go_wp2_with fail
  refine (rexprs_any _ ok d _ _ (HK.out.ext EQ.out) (by simp) (fun x hx => by simp at hx)).mono ?_
  rintro e w1 ⟨rfl, e1⟩
  have E1 := Lib.hid (EQ.out.trans e1)
  have b4 := HB.out _ (((Ext.refl _).drewN nq).trans e1)
  simp only [List.getElem?_toArray, List.getElem?_cons_zero, List.getElem?_cons_succ] at b4
  have hd9 : decide ((0 : Int) ≤ (n0 : Int)) = true := decide_eq_true (by omega)
  clear e1
  have hE : exprsP [] = true := rfl
  rw [hE]
  go_wp2_with fail
  go_ret
  exact ⟨by rw [show exprsP [] = true from rfl]; simp, E1.out⟩
 ·obtain ⟨m, hm⟩ : ∃ m, l.length = m + 1 := ⟨l0.length, by rw [hlx]; simp⟩
  have kl : m < l.length := by omega
  have HK := Lib.hid h
  obtain ⟨b, o, qn, cn, ql, cl, rfl, c0, g1, g2, g3, g4, g5, g6⟩ := h.node kl
  clear g1 g2 g3 g4 g5 g6 hlx
  have hxm : l[m]? = some l[m] := List.getElem?_eq_getElem kl
  have hwk : IntKind.i64.wrap l[m].k = l[m].k := IntWalk.i64_in _ (hs _ (List.getElem_mem kl))
  obtain ⟨y, hy⟩ : ∃ y, l[m].k = y := ⟨_, rfl⟩
  rw [hy] at c0 hwk
  have HLK := Lib.hid (show (l[m]?).map Nd.k = some y by rw [hxm, ← hy]; rfl)
  rw [hm] at hl ⊢
  have HM := Lib.hid hm
  have HK2 : Hid (KidsAt ok w d (.slice (some ⟨b, o, none⟩) (m + 1) c) l) := Lib.hid (by rw [← HM.out]; exact HK.out)
  have capc := HK2.out.cap (by rw [HM.out]; omega)
  rw [HM.out] at capc
  have HX := Lib.hid (fun W (e : Ext w W) => e.cell c0)
  have HS := Lib.hid hs
  clear c0 h kl hs hy hxm hm
  have HE := Lib.hid ((Ext.refl w).alloc (.cells #[.int .i64 1, .string a, .string t, .int .i64 n, .slice q0 n0 c9, .slice (some ⟨b, o, none⟩) (m + 1) c] 28))
  have hw1 : IntKind.i64.wrap ((m : Int) + 1 - 1) = (m : Int) := by rw [IntWalk.i64_in _ (by omega)]; omega
  have hm0 : (0 : Int) ≤ (m : Int) := by omega
  have hm1 : (m : Int) < (m : Int) + 1 := by omega
  have hmx : max (0 : Int) (m : Int) = (m : Int) := by omega
  have hd0 : decide ((0 : Int) < (m : Int) + 1) = true := decide_eq_true (by omega)
  have HB := Lib.hid (fun W (e : Ext _ W) => ((Blk.new w 28 #[.int .i64 1, .string a, .string t, .int .i64 n, .slice q0 n0 c9, .slice (some ⟨b, o, none⟩) (m + 1) c]).ext e).cell 4)
  try clear hc
  go_enter Tryz.func75, Tryz.ntmps75
  go_wp2_with fail
  go_quiet (fail)
  have EQ := Lib.hid (HE.out.drewN nq)
  have c0 := HX.out _ EQ.out
  clear HE
  go_wp2_with fail
  obtain ⟨bb, hbb⟩ : ∃ b, exprsP l = b := ⟨_, rfl⟩
  have HBB := Lib.hid hbb
  have cE := rexprs_any _ ok d _ l (HK2.out.ext EQ.out) (by first | (rw [HM.out]; exact hl) | (rw [List.length_take]; omega)) (fun x hx => by first | exact HS.out x hx | exact HS.out x (List.mem_of_mem_take hx))
  rw [hbb] at cE
  clear hbb
  refine cE.mono ?_
  rintro e w1 ⟨rfl, e1⟩
  have E1 := Lib.hid (EQ.out.trans e1)
  have b4 := HB.out _ (((Ext.refl _).drewN nq).trans e1)
  simp only [List.getElem?_toArray, List.getElem?_cons_zero, List.getElem?_cons_succ] at b4
  clear e1 cE
  cases bb with
  | false =>
   go_wp2_with fail
   go_ret
   exact ⟨by rw [HBB.out]; rfl, E1.out⟩
  | true =>
   have hdd : decide (m + 1 ≤ n0) = decide ((m : Int) + 1 ≤ (n0 : Int)) := by
    rw [Bool.eq_iff_iff, decide_eq_true_eq, decide_eq_true_eq]; omega
   have HDD := Lib.hid hdd
   clear hdd
   go_wp2_with fail
   go_ret
   exact ⟨by rw [HBB.out, HDD.out]; simp, E1.out⟩
theorem rkids_2 (w : World) (ok : Nat → Prop) (d : Nat) (a t : ByteArray) (n : Int) (q0 : Option Addr) (n0 c9 : Nat) (q : Option Addr) (c : Nat) (l : List Nd) (h : KidsAt ok w d (.slice q l.length c) l) (hl : l.length ≤ 140737488355328) (hs : ∀ x ∈ l, In64 x.k) :
  Calls Tryz.prog 75 #[.agg #[.int .i64 2, .string a, .string t, .int .i64 n, .slice q0 n0 c9, .slice q l.length c]] w fun e w' => e = .returned (.bool (assignP l)) ∧ Ext w w' := by
 rcases List.eq_nil_or_concat l with rfl | ⟨l0, x, hlx⟩
 ·have HE := Lib.hid ((Ext.refl w).alloc (.cells #[.int .i64 2, .string a, .string t, .int .i64 n, .slice q0 n0 c9, .slice q 0 c] 28))
  have HK := Lib.hid h
  clear h hs
  go_enter Tryz.func75, Tryz.ntmps75
  go_wp2_with fail
  go_quiet (fail)
  have EQ := Lib.hid (HE.out.drewN nq)
  clear HE
  go_wp2_with fail
  go_ret
  exact ⟨rfl, EQ.out⟩
 ·obtain ⟨m, hm⟩ : ∃ m, l.length = m + 1 := ⟨l0.length, by rw [hlx]; simp⟩
  have kl : m < l.length := by omega
  have HK := Lib.hid h
  obtain ⟨b, o, qn, cn, ql, cl, rfl, c0, g1, g2, g3, g4, g5, g6⟩ := h.node kl
  clear g1 g2 g3 g4 g5 g6 hlx
  have hxm : l[m]? = some l[m] := List.getElem?_eq_getElem kl
  have hwk : IntKind.i64.wrap l[m].k = l[m].k := IntWalk.i64_in _ (hs _ (List.getElem_mem kl))
  obtain ⟨y, hy⟩ : ∃ y, l[m].k = y := ⟨_, rfl⟩
  rw [hy] at c0 hwk
  have HLK := Lib.hid (show (l[m]?).map Nd.k = some y by rw [hxm, ← hy]; rfl)
  rw [hm] at hl ⊢
  have HM := Lib.hid hm
  have HK2 : Hid (KidsAt ok w d (.slice (some ⟨b, o, none⟩) (m + 1) c) l) := Lib.hid (by rw [← HM.out]; exact HK.out)
  have capc := HK2.out.cap (by rw [HM.out]; omega)
  rw [HM.out] at capc
  have HX := Lib.hid (fun W (e : Ext w W) => e.cell c0)
  have HS := Lib.hid hs
  clear c0 h kl hs hy hxm hm
  have HE := Lib.hid ((Ext.refl w).alloc (.cells #[.int .i64 2, .string a, .string t, .int .i64 n, .slice q0 n0 c9, .slice (some ⟨b, o, none⟩) (m + 1) c] 28))
  have hw1 : IntKind.i64.wrap ((m : Int) + 1 - 1) = (m : Int) := by rw [IntWalk.i64_in _ (by omega)]; omega
  have hm0 : (0 : Int) ≤ (m : Int) := by omega
  have hm1 : (m : Int) < (m : Int) + 1 := by omega
  have hmx : max (0 : Int) (m : Int) = (m : Int) := by omega
  have hd0 : decide ((0 : Int) < (m : Int) + 1) = true := decide_eq_true (by omega)
  by_cases hc : m + 1 = 2
  ·have hk0 : ((m : Int) + 1 == 2) = true := beq_iff_eq.2 (by omega)
   have HC := Lib.hid hc
   have hc0 : (0 : Int) < (m : Int) + 1 := by omega
   have kl : 0 < l.length := by rw [HM.out]; omega
   obtain ⟨b', o', qn, cn, ql, cl, hq, d0, g1, g2, g3, g4, g5, g6⟩ := (by have := HK.out; exact this : KidsAt ok w d (.slice (some ⟨b, o, none⟩) l.length c) l).node kl
   obtain ⟨rfl, rfl⟩ : b' = b ∧ o' = o := by cases hq; exact ⟨rfl, rfl⟩
   clear g1 g2 g3 g4 g5 g6 hq
   have hwk0 : IntKind.i64.wrap l[0].k = l[0].k := IntWalk.i64_in _ (HS.out _ (List.getElem_mem kl))
   obtain ⟨z, hz⟩ : ∃ z, l[0].k = z := ⟨_, rfl⟩
   rw [hz] at d0 hwk0
   rw [Nat.zero_mul, Nat.add_zero] at d0
   have HZ : Hid (assignP l = (exprsP l && (z == 15 || z == 16))) := Lib.hid (by
    unfold assignP
    rw [HM.out, HC.out]
    cases l with
    | nil => simp at kl
    | cons y l => simp at hz; subst hz; rfl)
   have HD0 := Lib.hid (fun W (e : Ext w W) => e.cell d0)
   clear d0 hz kl
   try clear hc
   go_enter Tryz.func75, Tryz.ntmps75
   go_wp2_with fail
   go_quiet (fail)
   have EQ := Lib.hid (HE.out.drewN nq)
   have c0 := HX.out _ EQ.out
   clear HE
   go_wp2_with fail
   obtain ⟨bb, hbb⟩ : ∃ b, exprsP l = b := ⟨_, rfl⟩
   have HBB := Lib.hid hbb
   have cE := rexprs_any _ ok d _ l (HK2.out.ext EQ.out) (by first | (rw [HM.out]; exact hl) | (rw [List.length_take]; omega)) (fun x hx => by first | exact HS.out x hx | exact HS.out x (List.mem_of_mem_take hx))
   rw [hbb] at cE
   clear hbb
   refine cE.mono ?_
   rintro e w1 ⟨rfl, e1⟩
   have E1 := Lib.hid (EQ.out.trans e1)
   have d0 := HD0.out _ E1.out
   clear e1 cE
   cases bb with
   | false =>
    go_wp2_with fail
    go_ret
    exact ⟨by rw [HZ.out, HBB.out]; rfl, E1.out⟩
   | true =>
    cases g15 : (z == 15) with
    | true =>
     go_wp2_with fail
     go_ret
     exact ⟨by rw [HZ.out, HBB.out, g15]; rfl, E1.out⟩
    | false =>
     go_wp2_with fail
     go_ret
     exact ⟨by rw [HZ.out, HBB.out, g15]; simp, E1.out⟩
  ·have hk0 : ((m : Int) + 1 == 2) = false := beq_eq_false_iff_ne.2 (by omega)
   have HR : Hid (assignP l = false) := Lib.hid (by unfold assignP; rw [lenP l m 2 HM.out]; rw [show ((m : Int) + 1 == ((2 : Nat) : Int)) = false from hk0]; rfl)
   try clear hc
   go_enter Tryz.func75, Tryz.ntmps75
   go_wp2_with fail
   go_quiet (fail)
   have EQ := Lib.hid (HE.out.drewN nq)
   have c0 := HX.out _ EQ.out
   clear HE
   go_wp2_with fail
   go_ret
   rw [HR.out]
   exact ⟨rfl, EQ.out⟩
theorem rkids_3 (w : World) (ok : Nat → Prop) (d : Nat) (a t : ByteArray) (n : Int) (q0 : Option Addr) (n0 c9 : Nat) (q : Option Addr) (c : Nat) (l : List Nd) (h : KidsAt ok w d (.slice q l.length c) l) (hl : l.length ≤ 140737488355328) (hs : ∀ x ∈ l, In64 x.k) :
  Calls Tryz.prog 75 #[.agg #[.int .i64 3, .string a, .string t, .int .i64 n, .slice q0 n0 c9, .slice q l.length c]] w fun e w' => e = .returned (.bool (blockAtP l 0)) ∧ Ext w w' := by
 rcases List.eq_nil_or_concat l with rfl | ⟨l0, x, hlx⟩
 ·have HE := Lib.hid ((Ext.refl w).alloc (.cells #[.int .i64 3, .string a, .string t, .int .i64 n, .slice q0 n0 c9, .slice q 0 c] 28))
  have HK := Lib.hid h
  clear h hs
  go_enter Tryz.func75, Tryz.ntmps75
  go_wp2_with fail
  go_quiet (fail)
  have EQ := Lib.hid (HE.out.drewN nq)
  clear HE
  go_wp2_with fail
  go_ret
  exact ⟨rfl, EQ.out⟩
 ·obtain ⟨m, hm⟩ : ∃ m, l.length = m + 1 := ⟨l0.length, by rw [hlx]; simp⟩
  have kl : m < l.length := by omega
  have HK := Lib.hid h
  obtain ⟨b, o, qn, cn, ql, cl, rfl, c0, g1, g2, g3, g4, g5, g6⟩ := h.node kl
  clear g1 g2 g3 g4 g5 g6 hlx
  have hxm : l[m]? = some l[m] := List.getElem?_eq_getElem kl
  have hwk : IntKind.i64.wrap l[m].k = l[m].k := IntWalk.i64_in _ (hs _ (List.getElem_mem kl))
  obtain ⟨y, hy⟩ : ∃ y, l[m].k = y := ⟨_, rfl⟩
  rw [hy] at c0 hwk
  have HLK := Lib.hid (show (l[m]?).map Nd.k = some y by rw [hxm, ← hy]; rfl)
  rw [hm] at hl ⊢
  have HM := Lib.hid hm
  have HK2 : Hid (KidsAt ok w d (.slice (some ⟨b, o, none⟩) (m + 1) c) l) := Lib.hid (by rw [← HM.out]; exact HK.out)
  have capc := HK2.out.cap (by rw [HM.out]; omega)
  rw [HM.out] at capc
  have HX := Lib.hid (fun W (e : Ext w W) => e.cell c0)
  have HS := Lib.hid hs
  clear c0 h kl hs hy hxm hm
  have HE := Lib.hid ((Ext.refl w).alloc (.cells #[.int .i64 3, .string a, .string t, .int .i64 n, .slice q0 n0 c9, .slice (some ⟨b, o, none⟩) (m + 1) c] 28))
  have hw1 : IntKind.i64.wrap ((m : Int) + 1 - 1) = (m : Int) := by rw [IntWalk.i64_in _ (by omega)]; omega
  have hm0 : (0 : Int) ≤ (m : Int) := by omega
  have hm1 : (m : Int) < (m : Int) + 1 := by omega
  have hmx : max (0 : Int) (m : Int) = (m : Int) := by omega
  have hd0 : decide ((0 : Int) < (m : Int) + 1) = true := decide_eq_true (by omega)
  by_cases hc : m = 0
  ·have hk0 : ((m : Int) + 1 == 1) = true := beq_iff_eq.2 (by omega)
   have HR : Hid (blockAtP l 0 = (y == 0)) := Lib.hid (by
    have h1 := HLK.out
    have h2 := HM.out
    unfold blockAtP
    subst hc
    rw [h2]
    cases hl0 : l[0]? with
    | none => rw [hl0] at h1; cases h1
    | some z => rw [hl0] at h1; simp at h1; subst h1; simp [exprsP])
   rw [HR.out]
   try clear hc
   go_enter Tryz.func75, Tryz.ntmps75
   go_wp2_with fail
   go_quiet (fail)
   have EQ := Lib.hid (HE.out.drewN nq)
   have c0 := HX.out _ EQ.out
   clear HE
   go_wp2_with fail
   go_ret
   exact ⟨by simp, EQ.out⟩
  ·have hk0 : ((m : Int) + 1 == 1) = false := beq_eq_false_iff_ne.2 (by omega)
   have HR : Hid (blockAtP l 0 = false) := Lib.hid (by unfold blockAtP; rw [lenP l m (0 + 1) HM.out]; rw [show ((m : Int) + 1 == ((0 + 1 : Nat) : Int)) = false from hk0]; rfl)
   try clear hc
   go_enter Tryz.func75, Tryz.ntmps75
   go_wp2_with fail
   go_quiet (fail)
   have EQ := Lib.hid (HE.out.drewN nq)
   have c0 := HX.out _ EQ.out
   clear HE
   go_wp2_with fail
   go_ret
   rw [HR.out]
   exact ⟨rfl, EQ.out⟩
theorem rkids_9 (w : World) (ok : Nat → Prop) (d : Nat) (a t : ByteArray) (n : Int) (q0 : Option Addr) (n0 c9 : Nat) (q : Option Addr) (c : Nat) (l : List Nd) (h : KidsAt ok w d (.slice q l.length c) l) (hl : l.length ≤ 140737488355328) (hs : ∀ x ∈ l, In64 x.k) :
  Calls Tryz.prog 75 #[.agg #[.int .i64 9, .string a, .string t, .int .i64 n, .slice q0 n0 c9, .slice q l.length c]] w fun e w' => e = .returned (.bool (blockAtP l 0)) ∧ Ext w w' := by
 rcases List.eq_nil_or_concat l with rfl | ⟨l0, x, hlx⟩
 ·have HE := Lib.hid ((Ext.refl w).alloc (.cells #[.int .i64 9, .string a, .string t, .int .i64 n, .slice q0 n0 c9, .slice q 0 c] 28))
  have HK := Lib.hid h
  clear h hs
  go_enter Tryz.func75, Tryz.ntmps75
  go_wp2_with fail
  go_quiet (fail)
  have EQ := Lib.hid (HE.out.drewN nq)
  clear HE
  go_wp2_with fail
  go_ret
  exact ⟨rfl, EQ.out⟩
 ·obtain ⟨m, hm⟩ : ∃ m, l.length = m + 1 := ⟨l0.length, by rw [hlx]; simp⟩
  have kl : m < l.length := by omega
  have HK := Lib.hid h
  obtain ⟨b, o, qn, cn, ql, cl, rfl, c0, g1, g2, g3, g4, g5, g6⟩ := h.node kl
  clear g1 g2 g3 g4 g5 g6 hlx
  have hxm : l[m]? = some l[m] := List.getElem?_eq_getElem kl
  have hwk : IntKind.i64.wrap l[m].k = l[m].k := IntWalk.i64_in _ (hs _ (List.getElem_mem kl))
  obtain ⟨y, hy⟩ : ∃ y, l[m].k = y := ⟨_, rfl⟩
  rw [hy] at c0 hwk
  have HLK := Lib.hid (show (l[m]?).map Nd.k = some y by rw [hxm, ← hy]; rfl)
  rw [hm] at hl ⊢
  have HM := Lib.hid hm
  have HK2 : Hid (KidsAt ok w d (.slice (some ⟨b, o, none⟩) (m + 1) c) l) := Lib.hid (by rw [← HM.out]; exact HK.out)
  have capc := HK2.out.cap (by rw [HM.out]; omega)
  rw [HM.out] at capc
  have HX := Lib.hid (fun W (e : Ext w W) => e.cell c0)
  have HS := Lib.hid hs
  clear c0 h kl hs hy hxm hm
  have HE := Lib.hid ((Ext.refl w).alloc (.cells #[.int .i64 9, .string a, .string t, .int .i64 n, .slice q0 n0 c9, .slice (some ⟨b, o, none⟩) (m + 1) c] 28))
  have hw1 : IntKind.i64.wrap ((m : Int) + 1 - 1) = (m : Int) := by rw [IntWalk.i64_in _ (by omega)]; omega
  have hm0 : (0 : Int) ≤ (m : Int) := by omega
  have hm1 : (m : Int) < (m : Int) + 1 := by omega
  have hmx : max (0 : Int) (m : Int) = (m : Int) := by omega
  have hd0 : decide ((0 : Int) < (m : Int) + 1) = true := decide_eq_true (by omega)
  by_cases hc : m = 0
  ·have hk0 : ((m : Int) + 1 == 1) = true := beq_iff_eq.2 (by omega)
   have HR : Hid (blockAtP l 0 = (y == 0)) := Lib.hid (by
    have h1 := HLK.out
    have h2 := HM.out
    unfold blockAtP
    subst hc
    rw [h2]
    cases hl0 : l[0]? with
    | none => rw [hl0] at h1; cases h1
    | some z => rw [hl0] at h1; simp at h1; subst h1; simp [exprsP])
   rw [HR.out]
   try clear hc
   go_enter Tryz.func75, Tryz.ntmps75
   go_wp2_with fail
   go_quiet (fail)
   have EQ := Lib.hid (HE.out.drewN nq)
   have c0 := HX.out _ EQ.out
   clear HE
   go_wp2_with fail
   go_ret
   exact ⟨by simp, EQ.out⟩
  ·have hk0 : ((m : Int) + 1 == 1) = false := beq_eq_false_iff_ne.2 (by omega)
   have HR : Hid (blockAtP l 0 = false) := Lib.hid (by unfold blockAtP; rw [lenP l m (0 + 1) HM.out]; rw [show ((m : Int) + 1 == ((0 + 1 : Nat) : Int)) = false from hk0]; rfl)
   try clear hc
   go_enter Tryz.func75, Tryz.ntmps75
   go_wp2_with fail
   go_quiet (fail)
   have EQ := Lib.hid (HE.out.drewN nq)
   have c0 := HX.out _ EQ.out
   clear HE
   go_wp2_with fail
   go_ret
   rw [HR.out]
   exact ⟨rfl, EQ.out⟩
theorem rkids_5 (w : World) (ok : Nat → Prop) (d : Nat) (a t : ByteArray) (n : Int) (q0 : Option Addr) (n0 c9 : Nat) (q : Option Addr) (c : Nat) (l : List Nd) (h : KidsAt ok w d (.slice q l.length c) l) (hl : l.length ≤ 140737488355328) (hs : ∀ x ∈ l, In64 x.k) :
  Calls Tryz.prog 75 #[.agg #[.int .i64 5, .string a, .string t, .int .i64 n, .slice q0 n0 c9, .slice q l.length c]] w fun e w' => e = .returned (.bool (blockAtP l 1)) ∧ Ext w w' := by
 rcases List.eq_nil_or_concat l with rfl | ⟨l0, x, hlx⟩
 ·have HE := Lib.hid ((Ext.refl w).alloc (.cells #[.int .i64 5, .string a, .string t, .int .i64 n, .slice q0 n0 c9, .slice q 0 c] 28))
  have HK := Lib.hid h
  clear h hs
  go_enter Tryz.func75, Tryz.ntmps75
  go_wp2_with fail
  go_quiet (fail)
  have EQ := Lib.hid (HE.out.drewN nq)
  clear HE
  go_wp2_with fail
  go_ret
  exact ⟨rfl, EQ.out⟩
 ·obtain ⟨m, hm⟩ : ∃ m, l.length = m + 1 := ⟨l0.length, by rw [hlx]; simp⟩
  have kl : m < l.length := by omega
  have HK := Lib.hid h
  obtain ⟨b, o, qn, cn, ql, cl, rfl, c0, g1, g2, g3, g4, g5, g6⟩ := h.node kl
  clear g1 g2 g3 g4 g5 g6 hlx
  have hxm : l[m]? = some l[m] := List.getElem?_eq_getElem kl
  have hwk : IntKind.i64.wrap l[m].k = l[m].k := IntWalk.i64_in _ (hs _ (List.getElem_mem kl))
  obtain ⟨y, hy⟩ : ∃ y, l[m].k = y := ⟨_, rfl⟩
  rw [hy] at c0 hwk
  have HLK := Lib.hid (show (l[m]?).map Nd.k = some y by rw [hxm, ← hy]; rfl)
  rw [hm] at hl ⊢
  have HM := Lib.hid hm
  have HK2 : Hid (KidsAt ok w d (.slice (some ⟨b, o, none⟩) (m + 1) c) l) := Lib.hid (by rw [← HM.out]; exact HK.out)
  have capc := HK2.out.cap (by rw [HM.out]; omega)
  rw [HM.out] at capc
  have HX := Lib.hid (fun W (e : Ext w W) => e.cell c0)
  have HS := Lib.hid hs
  clear c0 h kl hs hy hxm hm
  have HE := Lib.hid ((Ext.refl w).alloc (.cells #[.int .i64 5, .string a, .string t, .int .i64 n, .slice q0 n0 c9, .slice (some ⟨b, o, none⟩) (m + 1) c] 28))
  have hw1 : IntKind.i64.wrap ((m : Int) + 1 - 1) = (m : Int) := by rw [IntWalk.i64_in _ (by omega)]; omega
  have hm0 : (0 : Int) ≤ (m : Int) := by omega
  have hm1 : (m : Int) < (m : Int) + 1 := by omega
  have hmx : max (0 : Int) (m : Int) = (m : Int) := by omega
  have hd0 : decide ((0 : Int) < (m : Int) + 1) = true := decide_eq_true (by omega)
  by_cases hc : m = 1
  ·have hk0 : ((m : Int) + 1 == 2) = true := beq_iff_eq.2 (by omega)
   have h1le : (1 : Int) ≤ (m : Int) + 1 := by omega
   have h1n : 1 ≤ m + 1 := by omega
   have hcap := capc
   have HC := Lib.hid hc
   have HR : Hid (blockAtP l 1 = ((y == 0) && exprsP (l.take 1))) := Lib.hid (by
    have h1 := HLK.out
    have h2 := HM.out
    unfold blockAtP
    subst hc
    rw [h2]
    cases hl0 : l[1]? with
    | none => rw [hl0] at h1; cases h1
    | some z => rw [hl0] at h1; simp at h1; subst h1; simp)
   cases hy0 : (y == 0) with
   | false =>
    try clear hc
    go_enter Tryz.func75, Tryz.ntmps75
    go_wp2_with fail
    go_quiet (fail)
    have EQ := Lib.hid (HE.out.drewN nq)
    have c0 := HX.out _ EQ.out
    clear HE
    go_wp2_with fail
    go_ret
    exact ⟨by rw [HR.out, hy0]; rfl, EQ.out⟩
   | true =>
    try clear hc
    go_enter Tryz.func75, Tryz.ntmps75
    go_wp2_with fail
    go_quiet (fail)
    have EQ := Lib.hid (HE.out.drewN nq)
    have c0 := HX.out _ EQ.out
    clear HE
    go_wp2_with fail
    obtain ⟨bb, hbb⟩ : ∃ b, exprsP (l.take 1) = b := ⟨_, rfl⟩
    have HBB := Lib.hid hbb
    have cE := rexprs_any _ ok d _ (l.take 1) ((HK2.out.take 1 (by rw [HM.out]; omega)).ext EQ.out) (by first | (rw [HM.out]; exact hl) | (rw [List.length_take]; omega)) (fun x hx => by first | exact HS.out x hx | exact HS.out x (List.mem_of_mem_take hx))
    rw [hbb] at cE
    clear hbb
    refine cE.mono ?_
    rintro e w1 ⟨rfl, e1⟩
    have E1 := Lib.hid (EQ.out.trans e1)
    clear e1 cE
    go_wp2_with fail
    go_ret
    exact ⟨by rw [HR.out, hy0, HBB.out]; simp, E1.out⟩
  ·have hk0 : ((m : Int) + 1 == 2) = false := beq_eq_false_iff_ne.2 (by omega)
   have HR : Hid (blockAtP l 1 = false) := Lib.hid (by unfold blockAtP; rw [lenP l m (1 + 1) HM.out]; rw [show ((m : Int) + 1 == ((1 + 1 : Nat) : Int)) = false from hk0]; rfl)
   try clear hc
   go_enter Tryz.func75, Tryz.ntmps75
   go_wp2_with fail
   go_quiet (fail)
   have EQ := Lib.hid (HE.out.drewN nq)
   have c0 := HX.out _ EQ.out
   clear HE
   go_wp2_with fail
   go_ret
   rw [HR.out]
   exact ⟨rfl, EQ.out⟩
theorem rkids_6 (w : World) (ok : Nat → Prop) (d : Nat) (a t : ByteArray) (n : Int) (q0 : Option Addr) (n0 c9 : Nat) (q : Option Addr) (c : Nat) (l : List Nd) (h : KidsAt ok w d (.slice q l.length c) l) (hl : l.length ≤ 140737488355328) (hs : ∀ x ∈ l, In64 x.k) :
  Calls Tryz.prog 75 #[.agg #[.int .i64 6, .string a, .string t, .int .i64 n, .slice q0 n0 c9, .slice q l.length c]] w fun e w' => e = .returned (.bool (blockAtP l 2 || blockAtP l 3)) ∧ Ext w w' := by
 rcases List.eq_nil_or_concat l with rfl | ⟨l0, x, hlx⟩
 ·have HE := Lib.hid ((Ext.refl w).alloc (.cells #[.int .i64 6, .string a, .string t, .int .i64 n, .slice q0 n0 c9, .slice q 0 c] 28))
  have HK := Lib.hid h
  clear h hs
  go_enter Tryz.func75, Tryz.ntmps75
  go_wp2_with fail
  go_quiet (fail)
  have EQ := Lib.hid (HE.out.drewN nq)
  clear HE
  go_wp2_with fail
  go_ret
  exact ⟨rfl, EQ.out⟩
 ·obtain ⟨m, hm⟩ : ∃ m, l.length = m + 1 := ⟨l0.length, by rw [hlx]; simp⟩
  have kl : m < l.length := by omega
  have HK := Lib.hid h
  obtain ⟨b, o, qn, cn, ql, cl, rfl, c0, g1, g2, g3, g4, g5, g6⟩ := h.node kl
  clear g1 g2 g3 g4 g5 g6 hlx
  have hxm : l[m]? = some l[m] := List.getElem?_eq_getElem kl
  have hwk : IntKind.i64.wrap l[m].k = l[m].k := IntWalk.i64_in _ (hs _ (List.getElem_mem kl))
  obtain ⟨y, hy⟩ : ∃ y, l[m].k = y := ⟨_, rfl⟩
  rw [hy] at c0 hwk
  have HLK := Lib.hid (show (l[m]?).map Nd.k = some y by rw [hxm, ← hy]; rfl)
  rw [hm] at hl ⊢
  have HM := Lib.hid hm
  have HK2 : Hid (KidsAt ok w d (.slice (some ⟨b, o, none⟩) (m + 1) c) l) := Lib.hid (by rw [← HM.out]; exact HK.out)
  have capc := HK2.out.cap (by rw [HM.out]; omega)
  rw [HM.out] at capc
  have HX := Lib.hid (fun W (e : Ext w W) => e.cell c0)
  have HS := Lib.hid hs
  clear c0 h kl hs hy hxm hm
  have HE := Lib.hid ((Ext.refl w).alloc (.cells #[.int .i64 6, .string a, .string t, .int .i64 n, .slice q0 n0 c9, .slice (some ⟨b, o, none⟩) (m + 1) c] 28))
  have hw1 : IntKind.i64.wrap ((m : Int) + 1 - 1) = (m : Int) := by rw [IntWalk.i64_in _ (by omega)]; omega
  have hm0 : (0 : Int) ≤ (m : Int) := by omega
  have hm1 : (m : Int) < (m : Int) + 1 := by omega
  have hmx : max (0 : Int) (m : Int) = (m : Int) := by omega
  have hd0 : decide ((0 : Int) < (m : Int) + 1) = true := decide_eq_true (by omega)
  by_cases hc : m = 2
  ·skip
   have HR0 : Hid (blockAtP l 3 = false) := Lib.hid (by unfold blockAtP; rw [HM.out, hc]; rfl)
   rw [HR0.out]
   have hk0 : ((m : Int) + 1 == 3) = true := beq_iff_eq.2 (by omega)
   have hk1 : ((m : Int) + 1 == 4) = false := beq_eq_false_iff_ne.2 (by omega)
   have hcap := capc
   have HC := Lib.hid hc
   have HR : Hid (blockAtP l 2 = ((y == 0) && exprsP (l.take m))) := Lib.hid (by
    have h1 := HLK.out
    have h2 := HM.out
    unfold blockAtP
    subst hc
    rw [h2]
    cases hl0 : l[2]? with
    | none => rw [hl0] at h1; cases h1
    | some z => rw [hl0] at h1; simp at h1; subst h1; simp)
   cases hy0 : (y == 0) with
   | false =>
    try clear hc
    go_enter Tryz.func75, Tryz.ntmps75
    go_wp2_with fail
    go_quiet (fail)
    have EQ := Lib.hid (HE.out.drewN nq)
    have c0 := HX.out _ EQ.out
    clear HE
    go_wp2_with fail
    go_ret
    exact ⟨by rw [HR.out, hy0]; rfl, EQ.out⟩
   | true =>
    try clear hc
    go_enter Tryz.func75, Tryz.ntmps75
    go_wp2_with fail
    go_quiet (fail)
    have EQ := Lib.hid (HE.out.drewN nq)
    have c0 := HX.out _ EQ.out
    clear HE
    go_wp2_with fail
    obtain ⟨bb, hbb⟩ : ∃ b, exprsP (l.take m) = b := ⟨_, rfl⟩
    have HBB := Lib.hid hbb
    have cE := rexprs_any _ ok d _ (l.take m) ((HK2.out.take m (by rw [HM.out]; omega)).ext EQ.out) (by first | (rw [HM.out]; exact hl) | (rw [List.length_take]; omega)) (fun x hx => by first | exact HS.out x hx | exact HS.out x (List.mem_of_mem_take hx))
    rw [hbb] at cE
    clear hbb
    refine cE.mono ?_
    rintro e w1 ⟨rfl, e1⟩
    have E1 := Lib.hid (EQ.out.trans e1)
    clear e1 cE
    go_wp2_with fail
    go_ret
    exact ⟨by rw [HR.out, hy0, HBB.out]; simp, E1.out⟩
  ·by_cases hc : m = 3
   ·skip
    have HR0 : Hid (blockAtP l 2 = false) := Lib.hid (by unfold blockAtP; rw [HM.out, hc]; rfl)
    rw [HR0.out]
    have hk0 : ((m : Int) + 1 == 3) = false := beq_eq_false_iff_ne.2 (by omega)
    have hk1 : ((m : Int) + 1 == 4) = true := beq_iff_eq.2 (by omega)
    have hcap := capc
    have HC := Lib.hid hc
    have HR : Hid (blockAtP l 3 = ((y == 0) && exprsP (l.take m))) := Lib.hid (by
     have h1 := HLK.out
     have h2 := HM.out
     unfold blockAtP
     subst hc
     rw [h2]
     cases hl0 : l[3]? with
     | none => rw [hl0] at h1; cases h1
     | some z => rw [hl0] at h1; simp at h1; subst h1; simp)
    cases hy0 : (y == 0) with
    | false =>
     try clear hc
     go_enter Tryz.func75, Tryz.ntmps75
     go_wp2_with fail
     go_quiet (fail)
     have EQ := Lib.hid (HE.out.drewN nq)
     have c0 := HX.out _ EQ.out
     clear HE
     go_wp2_with fail
     go_ret
     exact ⟨by rw [HR.out, hy0]; rfl, EQ.out⟩
    | true =>
     try clear hc
     go_enter Tryz.func75, Tryz.ntmps75
     go_wp2_with fail
     go_quiet (fail)
     have EQ := Lib.hid (HE.out.drewN nq)
     have c0 := HX.out _ EQ.out
     clear HE
     go_wp2_with fail
     obtain ⟨bb, hbb⟩ : ∃ b, exprsP (l.take m) = b := ⟨_, rfl⟩
     have HBB := Lib.hid hbb
     have cE := rexprs_any _ ok d _ (l.take m) ((HK2.out.take m (by rw [HM.out]; omega)).ext EQ.out) (by first | (rw [HM.out]; exact hl) | (rw [List.length_take]; omega)) (fun x hx => by first | exact HS.out x hx | exact HS.out x (List.mem_of_mem_take hx))
     rw [hbb] at cE
     clear hbb
     refine cE.mono ?_
     rintro e w1 ⟨rfl, e1⟩
     have E1 := Lib.hid (EQ.out.trans e1)
     clear e1 cE
     go_wp2_with fail
     go_ret
     exact ⟨by rw [HR.out, hy0, HBB.out]; simp, E1.out⟩
   ·have hk0 : ((m : Int) + 1 == 3) = false := beq_eq_false_iff_ne.2 (by omega)
    have hk1 : ((m : Int) + 1 == 4) = false := beq_eq_false_iff_ne.2 (by omega)
    have HR : Hid ((blockAtP l 2 || blockAtP l 3) = false) := Lib.hid (by
     unfold blockAtP
     rw [lenP l m (2 + 1) HM.out, lenP l m (3 + 1) HM.out, show ((m : Int) + 1 == ((2 + 1 : Nat) : Int)) = false from hk0, show ((m : Int) + 1 == ((3 + 1 : Nat) : Int)) = false from hk1]; rfl)
    try clear hc
    go_enter Tryz.func75, Tryz.ntmps75
    go_wp2_with fail
    go_quiet (fail)
    have EQ := Lib.hid (HE.out.drewN nq)
    have c0 := HX.out _ EQ.out
    clear HE
    go_wp2_with fail
    go_ret
    rw [HR.out]
    exact ⟨rfl, EQ.out⟩
end Go.Proofs.YtkbcnacjaakleaaGreatDoor
