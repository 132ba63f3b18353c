/- A reply that is laid: kinds others, a list too deep. -/
import Derived.Test.YtopdgmchkoaeeaaDoorRtG
import Derived.Deep.RegionHeld3
namespace Go.Proofs.YtopdgmchkoaeeaaDoor
open Go.RowKit
set_option linter.unusedVariables false
set_option linter.unusedSimpArgs false

set_option maxRecDepth 100000 in
set_option maxHeartbeats 2000000 in
theorem lay_kX (w : World) {B tb ib bb fb T I : Nat} {l : List UInt8} (d : Nat) (x : Rep) (q : Option Addr) (c : Nat) (h : EncAt w B tb ib bb fb T I l) (hT : T ≤ 1048576) (hI : I ≤ 65536) (hs : x.s.size ≤ T) (hn : x.l.length ≤ I) (hL : l.length + T + 30 * I + 30 ≤ 100000000) (K0 : Int) (hk : x.k = K0) (h1 : ¬ x.k = 0 ∧ ¬ x.k = 1 ∧ ¬ x.k = 2 ∧ ¬ x.k = 3 ∧ ¬ x.k = 4 ∧ ¬ x.k = 5) :
    Calls Tryd.prog 54 #[.agg #[.int .i64 x.k, .int .i64 x.n, .string x.s, .slice q x.l.length c], .int .i64 (d : Int), .pointer (some ⟨tb, 0, none⟩), .pointer (some ⟨ib, 0, none⟩), .pointer (some ⟨bb, 0, none⟩), .pointer (some ⟨fb, 0, none⟩)] w (LayE w B tb ib bb fb T I l d x) := by
  have ct := h.t.cell 0
  have ci := h.i.cell 0
  have zt := h.t.frozen 0
  have zi := h.i.frozen 0
  simp only [List.getElem?_toArray, List.getElem?_cons_zero, List.getElem?_cons_succ] at ct ci
  have lt := h.t.lt
  have li := h.i.lt
  have nt : ¬ tb = w.heap.size := by omega
  have nt1 : ¬ tb = w.heap.size + 1 := by omega
  have ni : ¬ ib = w.heap.size := by omega
  have ni1 : ¬ ib = w.heap.size + 1 := by omega
  have nti : ¬ tb = ib := h.hb.2.2.2.2
  have nit : ¬ ib = tb := fun e => h.hb.2.2.2.2 e.symm
  have H := Lib.hid h
  have H1 := Lib.hid h1
  have hw1 : IntKind.i64.wrap ((T : Int) - (x.s.size : Int)) = (T : Int) - (x.s.size : Int) := IntWalk.i64_in _ (by omega)
  have hm1 : min (x.s.size : Int) 1048577 = (x.s.size : Int) := by omega
  have hw2 : IntKind.i64.wrap ((I : Int) - (x.l.length : Int)) = (I : Int) - (x.l.length : Int) := IntWalk.i64_in _ (by omega)
  have hm2 : min (x.l.length : Int) 65537 = (x.l.length : Int) := by omega
  have hc1 : decide ((0 : Int) ≤ (T : Int) - (x.s.size : Int)) = true := decide_eq_true (by omega)
  have hc2 : decide ((x.s.size : Int) ≤ (T : Int)) = true := decide_eq_true (by omega)
  have hc3 : decide (x.s.size ≤ T) = true := decide_eq_true (by omega)
  have hd1 : decide ((0 : Int) ≤ (I : Int) - (x.l.length : Int)) = true := decide_eq_true (by omega)
  have hd2 : decide ((x.l.length : Int) ≤ (I : Int)) = true := decide_eq_true (by omega)
  have hd3 : decide (x.l.length ≤ I) = true := decide_eq_true (by omega)
  have HT : Hid (((T - x.s.size : Nat) : Int) = (T : Int) - (x.s.size : Int)) := Lib.hid (by omega)
  have HI : Hid (((I - x.l.length : Nat) : Int) = (I : Int) - (x.l.length : Int)) := Lib.hid (by omega)
  have HK := Lib.hid hk
  have n0 : (K0 == 0) = false := by have := h1.1; simp; omega
  have n1 : (K0 == 1) = false := by have := h1.2.1; simp; omega
  have n2 : (K0 == 2) = false := by have := h1.2.2.1; simp; omega
  have n3 : (K0 == 3) = false := by have := h1.2.2.2.1; simp; omega
  have n4 : (K0 == 4) = false := by have := h1.2.2.2.2.1; simp; omega
  have n5 : (K0 == 5) = false := by have := h1.2.2.2.2.2; simp; omega
  clear h hk
  clear h1
  go_enter Tryd.func54, Tryd.ntmps54
  go_wp2_with fail
  refine (must_yes _ _).mono ?_
  rintro e w' ⟨rfl, rfl⟩
  have L := lay_start w x (.slice q x.l.length c) (T' := T - x.s.size) (I' := I - x.l.length) H.out
  rw [HT.out, HI.out] at L
  generalize (((w.setCell ⟨tb, 0, none⟩ (.int .i64 ((T : Int) - (x.s.size : Int)))).setCell ⟨ib, 0, none⟩ (.int .i64 ((I : Int) - (x.l.length : Int)))).alloc (.cells #[.int .i64 x.k, .int .i64 x.n, .string x.s, .slice q x.l.length c] 41)).alloc (.cells #[.int .i64 x.k, .int .i64 0, .string ⟨#[]⟩, .slice none 0 0] 41) = w4 at L ⊢
  have HL4 := Lib.hid L
  have x0 := HL4.out.box.cell 0
  have x1 := HL4.out.box.cell 1
  have x2 := HL4.out.box.cell 2
  have x3 := HL4.out.box.cell 3
  have y0 := HL4.out.bare.cell 0
  have y1 := HL4.out.bare.cell 1
  have y2 := HL4.out.bare.cell 2
  have y3 := HL4.out.bare.cell 3
  have v0 := HL4.out.bare.frozen 0
  have v1 := HL4.out.bare.frozen 1
  have v2 := HL4.out.bare.frozen 2
  have v3 := HL4.out.bare.frozen 3
  simp only [List.getElem?_toArray, List.getElem?_cons_zero, List.getElem?_cons_succ] at x0 x1 x2 x3 y0 y1 y2 y3
  rw [HK.out] at x0 y0
  clear L ct ci zt zi nt nt1 ni ni1 nti nit hw1 hm1 hw2 hm2 hc1 hc2 hc3 hd1 hd2 hd3
  go_wp2_with fail
  refine (must_no _ _).mono ?_
  rintro e w' ⟨rfl, rfl⟩
  go_wp2_with fail
  exact ⟨rfl, LayE.no (lay_unfine (fineX H1.out)) HL4.out.below HL4.out.keep rfl⟩
set_option maxRecDepth 100000 in
set_option maxHeartbeats 2000000 in
theorem lay_k50 (w : World) {B tb ib bb fb T I : Nat} {l : List UInt8} (d : Nat) (x : Rep) (q : Option Addr) (c : Nat) (h : EncAt w B tb ib bb fb T I l) (hT : T ≤ 1048576) (hI : I ≤ 65536) (hs : x.s.size ≤ T) (hn : x.l.length ≤ I) (hL : l.length + T + 30 * I + 30 ≤ 100000000) (hk : x.k = 5) (h1 : d = 0) :
    Calls Tryd.prog 54 #[.agg #[.int .i64 x.k, .int .i64 x.n, .string x.s, .slice q x.l.length c], .int .i64 (d : Int), .pointer (some ⟨tb, 0, none⟩), .pointer (some ⟨ib, 0, none⟩), .pointer (some ⟨bb, 0, none⟩), .pointer (some ⟨fb, 0, none⟩)] w (LayE w B tb ib bb fb T I l d x) := by
  have ct := h.t.cell 0
  have ci := h.i.cell 0
  have zt := h.t.frozen 0
  have zi := h.i.frozen 0
  simp only [List.getElem?_toArray, List.getElem?_cons_zero, List.getElem?_cons_succ] at ct ci
  have lt := h.t.lt
  have li := h.i.lt
  have nt : ¬ tb = w.heap.size := by omega
  have nt1 : ¬ tb = w.heap.size + 1 := by omega
  have ni : ¬ ib = w.heap.size := by omega
  have ni1 : ¬ ib = w.heap.size + 1 := by omega
  have nti : ¬ tb = ib := h.hb.2.2.2.2
  have nit : ¬ ib = tb := fun e => h.hb.2.2.2.2 e.symm
  have H := Lib.hid h
  have hw1 : IntKind.i64.wrap ((T : Int) - (x.s.size : Int)) = (T : Int) - (x.s.size : Int) := IntWalk.i64_in _ (by omega)
  have hm1 : min (x.s.size : Int) 1048577 = (x.s.size : Int) := by omega
  have hw2 : IntKind.i64.wrap ((I : Int) - (x.l.length : Int)) = (I : Int) - (x.l.length : Int) := IntWalk.i64_in _ (by omega)
  have hm2 : min (x.l.length : Int) 65537 = (x.l.length : Int) := by omega
  have hc1 : decide ((0 : Int) ≤ (T : Int) - (x.s.size : Int)) = true := decide_eq_true (by omega)
  have hc2 : decide ((x.s.size : Int) ≤ (T : Int)) = true := decide_eq_true (by omega)
  have hc3 : decide (x.s.size ≤ T) = true := decide_eq_true (by omega)
  have hd1 : decide ((0 : Int) ≤ (I : Int) - (x.l.length : Int)) = true := decide_eq_true (by omega)
  have hd2 : decide ((x.l.length : Int) ≤ (I : Int)) = true := decide_eq_true (by omega)
  have hd3 : decide (x.l.length ≤ I) = true := decide_eq_true (by omega)
  have HT : Hid (((T - x.s.size : Nat) : Int) = (T : Int) - (x.s.size : Int)) := Lib.hid (by omega)
  have HI : Hid (((I - x.l.length : Nat) : Int) = (I : Int) - (x.l.length : Int)) := Lib.hid (by omega)
  have HK := Lib.hid hk
  clear h hk
  subst h1
  go_enter Tryd.func54, Tryd.ntmps54
  go_wp2_with fail
  refine (must_yes _ _).mono ?_
  rintro e w' ⟨rfl, rfl⟩
  have L := lay_start w x (.slice q x.l.length c) (T' := T - x.s.size) (I' := I - x.l.length) H.out
  rw [HT.out, HI.out] at L
  generalize (((w.setCell ⟨tb, 0, none⟩ (.int .i64 ((T : Int) - (x.s.size : Int)))).setCell ⟨ib, 0, none⟩ (.int .i64 ((I : Int) - (x.l.length : Int)))).alloc (.cells #[.int .i64 x.k, .int .i64 x.n, .string x.s, .slice q x.l.length c] 41)).alloc (.cells #[.int .i64 x.k, .int .i64 0, .string ⟨#[]⟩, .slice none 0 0] 41) = w4 at L ⊢
  have HL4 := Lib.hid L
  have x0 := HL4.out.box.cell 0
  have x1 := HL4.out.box.cell 1
  have x2 := HL4.out.box.cell 2
  have x3 := HL4.out.box.cell 3
  have y0 := HL4.out.bare.cell 0
  have y1 := HL4.out.bare.cell 1
  have y2 := HL4.out.bare.cell 2
  have y3 := HL4.out.bare.cell 3
  have v0 := HL4.out.bare.frozen 0
  have v1 := HL4.out.bare.frozen 1
  have v2 := HL4.out.bare.frozen 2
  have v3 := HL4.out.bare.frozen 3
  simp only [List.getElem?_toArray, List.getElem?_cons_zero, List.getElem?_cons_succ] at x0 x1 x2 x3 y0 y1 y2 y3
  rw [HK.out] at x0 y0
  clear L ct ci zt zi nt nt1 ni ni1 nti nit hw1 hm1 hw2 hm2 hc1 hc2 hc3 hd1 hd2 hd3
  go_wp2_with fail
  refine (must_no _ _).mono ?_
  rintro e w' ⟨rfl, rfl⟩
  go_wp2_with fail
  exact ⟨rfl, LayE.no (lay_unfine (fine50 HK.out)) HL4.out.below HL4.out.keep rfl⟩
end Go.Proofs.YtopdgmchkoaeeaaDoor
