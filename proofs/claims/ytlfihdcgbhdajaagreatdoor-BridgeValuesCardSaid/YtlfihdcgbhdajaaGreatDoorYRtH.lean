/- A reply that is laid: kinds 1. -/
import Derived.Test.YtlfihdcgbhdajaaGreatDoorYA5
import Derived.Deep.RegionHeld3
namespace Go.Proofs.YtlfihdcgbhdajaaGreatDoor
open Go.RowKit
set_option linter.unusedVariables false
set_option linter.unusedSimpArgs false

set_option maxRecDepth 100000 in
set_option maxHeartbeats 2000000 in
theorem lay_k1a (w : World) {B tb ib bb fb T I : Nat} {l : List UInt8} (d : Nat) (x : Rep) (q : Option Addr) (c : Nat) (h : EncAt w B tb ib bb fb T I l) (hT : T ≤ 1048576) (hI : I ≤ 65536) (hs : x.s.size ≤ T) (hn : x.l.length ≤ I) (hL : l.length + T + 30 * I + 30 ≤ 100000000) (hk : x.k = 1) (h1 : hasB x.s 13 = true) :
  Calls Tryz.prog 75 #[.agg #[.int .i64 x.k, .int .i64 x.n, .string x.s, .slice q x.l.length c], .int .i64 (d : Int), .pointer (some ⟨tb, 0, none⟩), .pointer (some ⟨ib, 0, none⟩), .pointer (some ⟨bb, 0, none⟩), .pointer (some ⟨fb, 0, none⟩)] w (LayE w B tb ib bb fb T I l d x) := by
 have ct := h.t.cell 0
 have ci := h.i.cell 0
 have zt := h.t.frozen 0
 have zi := h.i.frozen 0
 simp only [List.getElem?_toArray, List.getElem?_cons_zero, List.getElem?_cons_succ] at ct ci
 have lt := h.t.lt
 have li := h.i.lt
 have nt : ¬ tb = w.heap.size := by omega
 have nt1 : ¬ tb = w.heap.size + 1 := by omega
 have ni : ¬ ib = w.heap.size := by omega
 have ni1 : ¬ ib = w.heap.size + 1 := by omega
 have nti : ¬ tb = ib := h.hb.2.2.2.2
 have nit : ¬ ib = tb := fun e => h.hb.2.2.2.2 e.symm
 have H := Lib.hid h
 have H1 := Lib.hid h1
 have hw1 : IntKind.i64.wrap ((T : Int) - (x.s.size : Int)) = (T : Int) - (x.s.size : Int) := IntWalk.i64_in _ (by omega)
 have hm1 : min (x.s.size : Int) 1048577 = (x.s.size : Int) := by omega
 have hw2 : IntKind.i64.wrap ((I : Int) - (x.l.length : Int)) = (I : Int) - (x.l.length : Int) := IntWalk.i64_in _ (by omega)
 have hm2 : min (x.l.length : Int) 65537 = (x.l.length : Int) := by omega
 have hc1 : decide ((0 : Int) ≤ (T : Int) - (x.s.size : Int)) = true := decide_eq_true (by omega)
 have hc2 : decide ((x.s.size : Int) ≤ (T : Int)) = true := decide_eq_true (by omega)
 have hc3 : decide (x.s.size ≤ T) = true := decide_eq_true (by omega)
 have hd1 : decide ((0 : Int) ≤ (I : Int) - (x.l.length : Int)) = true := decide_eq_true (by omega)
 have hd2 : decide ((x.l.length : Int) ≤ (I : Int)) = true := decide_eq_true (by omega)
 have hd3 : decide (x.l.length ≤ I) = true := decide_eq_true (by omega)
 have HT : Hid (((T - x.s.size : Nat) : Int) = (T : Int) - (x.s.size : Int)) := Lib.hid (by omega)
 have HI : Hid (((I - x.l.length : Nat) : Int) = (I : Int) - (x.l.length : Int)) := Lib.hid (by omega)
 have HK := Lib.hid hk
 clear h hk
 clear h1
 go_enter Tryz.func75, Tryz.ntmps75
 go_wp2_with fail
 refine (must_yes _ _).mono ?_
 rintro e w' ⟨rfl, rfl⟩
 have L := lay_start w x (.slice q x.l.length c) (T' := T - x.s.size) (I' := I - x.l.length) H.out
 rw [HT.out, HI.out] at L
 generalize (((w.setCell ⟨tb, 0, none⟩ (.int .i64 ((T : Int) - (x.s.size : Int)))).setCell ⟨ib, 0, none⟩ (.int .i64 ((I : Int) - (x.l.length : Int)))).alloc (.cells #[.int .i64 x.k, .int .i64 x.n, .string x.s, .slice q x.l.length c] 25)).alloc (.cells #[.int .i64 x.k, .int .i64 0, .string ⟨#[]⟩, .slice none 0 0] 25) = w4 at L ⊢
 have HL4 := Lib.hid L
 have x0 := HL4.out.box.cell 0
 have x1 := HL4.out.box.cell 1
 have x2 := HL4.out.box.cell 2
 have x3 := HL4.out.box.cell 3
 have y0 := HL4.out.bare.cell 0
 have y1 := HL4.out.bare.cell 1
 have y2 := HL4.out.bare.cell 2
 have y3 := HL4.out.bare.cell 3
 have v0 := HL4.out.bare.frozen 0
 have v1 := HL4.out.bare.frozen 1
 have v2 := HL4.out.bare.frozen 2
 have v3 := HL4.out.bare.frozen 3
 simp only [List.getElem?_toArray, List.getElem?_cons_zero, List.getElem?_cons_succ] at x0 x1 x2 x3 y0 y1 y2 y3
 rw [HK.out] at x0 y0
 clear L ct ci zt zi nt nt1 ni ni1 nti nit hw1 hm1 hw2 hm2 hc1 hc2 hc3 hd1 hd2 hd3
 go_wp2_with fail
 have C9 := contains_any x.s 13 w4
 rw [H1.out] at C9
 refine C9.mono ?_
 rintro e w' ⟨rfl, rfl⟩
 clear C9
 go_wp2_with fail
 refine (must_no _ _).mono ?_
 rintro e w' ⟨rfl, rfl⟩
 go_wp2_with fail
 exact ⟨rfl, LayE.no (lay_unfine (no12 (.inl HK.out) (.inl H1.out))) HL4.out.below HL4.out.keep rfl⟩
set_option maxRecDepth 100000 in
set_option maxHeartbeats 2000000 in
theorem lay_k1b (w : World) {B tb ib bb fb T I : Nat} {l : List UInt8} (d : Nat) (x : Rep) (q : Option Addr) (c : Nat) (h : EncAt w B tb ib bb fb T I l) (hT : T ≤ 1048576) (hI : I ≤ 65536) (hs : x.s.size ≤ T) (hn : x.l.length ≤ I) (hL : l.length + T + 30 * I + 30 ≤ 100000000) (hk : x.k = 1) (h1 : hasB x.s 13 = false) (h2 : hasB x.s 10 = true) :
  Calls Tryz.prog 75 #[.agg #[.int .i64 x.k, .int .i64 x.n, .string x.s, .slice q x.l.length c], .int .i64 (d : Int), .pointer (some ⟨tb, 0, none⟩), .pointer (some ⟨ib, 0, none⟩), .pointer (some ⟨bb, 0, none⟩), .pointer (some ⟨fb, 0, none⟩)] w (LayE w B tb ib bb fb T I l d x) := by
 have ct := h.t.cell 0
 have ci := h.i.cell 0
 have zt := h.t.frozen 0
 have zi := h.i.frozen 0
 simp only [List.getElem?_toArray, List.getElem?_cons_zero, List.getElem?_cons_succ] at ct ci
 have lt := h.t.lt
 have li := h.i.lt
 have nt : ¬ tb = w.heap.size := by omega
 have nt1 : ¬ tb = w.heap.size + 1 := by omega
 have ni : ¬ ib = w.heap.size := by omega
 have ni1 : ¬ ib = w.heap.size + 1 := by omega
 have nti : ¬ tb = ib := h.hb.2.2.2.2
 have nit : ¬ ib = tb := fun e => h.hb.2.2.2.2 e.symm
 have H := Lib.hid h
 have H1 := Lib.hid h1
 have H2 := Lib.hid h2
 have hw1 : IntKind.i64.wrap ((T : Int) - (x.s.size : Int)) = (T : Int) - (x.s.size : Int) := IntWalk.i64_in _ (by omega)
 have hm1 : min (x.s.size : Int) 1048577 = (x.s.size : Int) := by omega
 have hw2 : IntKind.i64.wrap ((I : Int) - (x.l.length : Int)) = (I : Int) - (x.l.length : Int) := IntWalk.i64_in _ (by omega)
 have hm2 : min (x.l.length : Int) 65537 = (x.l.length : Int) := by omega
 have hc1 : decide ((0 : Int) ≤ (T : Int) - (x.s.size : Int)) = true := decide_eq_true (by omega)
 have hc2 : decide ((x.s.size : Int) ≤ (T : Int)) = true := decide_eq_true (by omega)
 have hc3 : decide (x.s.size ≤ T) = true := decide_eq_true (by omega)
 have hd1 : decide ((0 : Int) ≤ (I : Int) - (x.l.length : Int)) = true := decide_eq_true (by omega)
 have hd2 : decide ((x.l.length : Int) ≤ (I : Int)) = true := decide_eq_true (by omega)
 have hd3 : decide (x.l.length ≤ I) = true := decide_eq_true (by omega)
 have HT : Hid (((T - x.s.size : Nat) : Int) = (T : Int) - (x.s.size : Int)) := Lib.hid (by omega)
 have HI : Hid (((I - x.l.length : Nat) : Int) = (I : Int) - (x.l.length : Int)) := Lib.hid (by omega)
 have HK := Lib.hid hk
 clear h hk
 clear h1 h2
 go_enter Tryz.func75, Tryz.ntmps75
 go_wp2_with fail
 refine (must_yes _ _).mono ?_
 rintro e w' ⟨rfl, rfl⟩
 have L := lay_start w x (.slice q x.l.length c) (T' := T - x.s.size) (I' := I - x.l.length) H.out
 rw [HT.out, HI.out] at L
 generalize (((w.setCell ⟨tb, 0, none⟩ (.int .i64 ((T : Int) - (x.s.size : Int)))).setCell ⟨ib, 0, none⟩ (.int .i64 ((I : Int) - (x.l.length : Int)))).alloc (.cells #[.int .i64 x.k, .int .i64 x.n, .string x.s, .slice q x.l.length c] 25)).alloc (.cells #[.int .i64 x.k, .int .i64 0, .string ⟨#[]⟩, .slice none 0 0] 25) = w4 at L ⊢
 have HL4 := Lib.hid L
 have x0 := HL4.out.box.cell 0
 have x1 := HL4.out.box.cell 1
 have x2 := HL4.out.box.cell 2
 have x3 := HL4.out.box.cell 3
 have y0 := HL4.out.bare.cell 0
 have y1 := HL4.out.bare.cell 1
 have y2 := HL4.out.bare.cell 2
 have y3 := HL4.out.bare.cell 3
 have v0 := HL4.out.bare.frozen 0
 have v1 := HL4.out.bare.frozen 1
 have v2 := HL4.out.bare.frozen 2
 have v3 := HL4.out.bare.frozen 3
 simp only [List.getElem?_toArray, List.getElem?_cons_zero, List.getElem?_cons_succ] at x0 x1 x2 x3 y0 y1 y2 y3
 rw [HK.out] at x0 y0
 clear L ct ci zt zi nt nt1 ni ni1 nti nit hw1 hm1 hw2 hm2 hc1 hc2 hc3 hd1 hd2 hd3
 go_wp2_with fail
 have C9 := contains_any x.s 13 w4
 rw [H1.out] at C9
 refine C9.mono ?_
 rintro e w' ⟨rfl, rfl⟩
 clear C9
 go_wp2_with fail
 have C9 := contains_any x.s 10 w4
 rw [H2.out] at C9
 refine C9.mono ?_
 rintro e w' ⟨rfl, rfl⟩
 clear C9
 go_wp2_with fail
 refine (must_no _ _).mono ?_
 rintro e w' ⟨rfl, rfl⟩
 go_wp2_with fail
 exact ⟨rfl, LayE.no (lay_unfine (no12 (.inl HK.out) (.inr H2.out))) HL4.out.below HL4.out.keep rfl⟩
set_option maxRecDepth 100000 in
set_option maxHeartbeats 2000000 in
theorem lay_k1c (w : World) {B tb ib bb fb T I : Nat} {l : List UInt8} (d : Nat) (x : Rep) (q : Option Addr) (c : Nat) (h : EncAt w B tb ib bb fb T I l) (hT : T ≤ 1048576) (hI : I ≤ 65536) (hs : x.s.size ≤ T) (hn : x.l.length ≤ I) (hL : l.length + T + 30 * I + 30 ≤ 100000000) (hk : x.k = 1) (h1 : hasB x.s 13 = false) (h2 : hasB x.s 10 = false) :
    Calls Tryz.prog 75 #[.agg #[.int .i64 x.k, .int .i64 x.n, .string x.s, .slice q x.l.length c], .int .i64 (d : Int), .pointer (some ⟨tb, 0, none⟩), .pointer (some ⟨ib, 0, none⟩), .pointer (some ⟨bb, 0, none⟩), .pointer (some ⟨fb, 0, none⟩)] w (LayE w B tb ib bb fb T I l d x) := by
  have ct := h.t.cell 0
  have ci := h.i.cell 0
  have zt := h.t.frozen 0
  have zi := h.i.frozen 0
  simp only [List.getElem?_toArray, List.getElem?_cons_zero, List.getElem?_cons_succ] at ct ci
  have lt := h.t.lt
  have li := h.i.lt
  have nt : ¬ tb = w.heap.size := by omega
  have nt1 : ¬ tb = w.heap.size + 1 := by omega
  have ni : ¬ ib = w.heap.size := by omega
  have ni1 : ¬ ib = w.heap.size + 1 := by omega
  have nti : ¬ tb = ib := h.hb.2.2.2.2
  have nit : ¬ ib = tb := fun e => h.hb.2.2.2.2 e.symm
  have H := Lib.hid h
  have H1 := Lib.hid h1
  have H2 := Lib.hid h2
  have hw1 : IntKind.i64.wrap ((T : Int) - (x.s.size : Int)) = (T : Int) - (x.s.size : Int) := IntWalk.i64_in _ (by omega)
  have hm1 : min (x.s.size : Int) 1048577 = (x.s.size : Int) := by omega
  have hw2 : IntKind.i64.wrap ((I : Int) - (x.l.length : Int)) = (I : Int) - (x.l.length : Int) := IntWalk.i64_in _ (by omega)
  have hm2 : min (x.l.length : Int) 65537 = (x.l.length : Int) := by omega
  have hc1 : decide ((0 : Int) ≤ (T : Int) - (x.s.size : Int)) = true := decide_eq_true (by omega)
  have hc2 : decide ((x.s.size : Int) ≤ (T : Int)) = true := decide_eq_true (by omega)
  have hc3 : decide (x.s.size ≤ T) = true := decide_eq_true (by omega)
  have hd1 : decide ((0 : Int) ≤ (I : Int) - (x.l.length : Int)) = true := decide_eq_true (by omega)
  have hd2 : decide ((x.l.length : Int) ≤ (I : Int)) = true := decide_eq_true (by omega)
  have hd3 : decide (x.l.length ≤ I) = true := decide_eq_true (by omega)
  have HT : Hid (((T - x.s.size : Nat) : Int) = (T : Int) - (x.s.size : Int)) := Lib.hid (by omega)
  have HI : Hid (((I - x.l.length : Nat) : Int) = (I : Int) - (x.l.length : Int)) := Lib.hid (by omega)
  have HK := Lib.hid hk
  clear h hk
  clear h1 h2
  go_enter Tryz.func75, Tryz.ntmps75
  go_wp2_with fail
  refine (must_yes _ _).mono ?_
  rintro e w' ⟨rfl, rfl⟩
  have L := lay_start w x (.slice q x.l.length c) (T' := T - x.s.size) (I' := I - x.l.length) H.out
  rw [HT.out, HI.out] at L
  generalize (((w.setCell ⟨tb, 0, none⟩ (.int .i64 ((T : Int) - (x.s.size : Int)))).setCell ⟨ib, 0, none⟩ (.int .i64 ((I : Int) - (x.l.length : Int)))).alloc (.cells #[.int .i64 x.k, .int .i64 x.n, .string x.s, .slice q x.l.length c] 25)).alloc (.cells #[.int .i64 x.k, .int .i64 0, .string ⟨#[]⟩, .slice none 0 0] 25) = w4 at L ⊢
  have HL4 := Lib.hid L
  have x0 := HL4.out.box.cell 0
  have x1 := HL4.out.box.cell 1
  have x2 := HL4.out.box.cell 2
  have x3 := HL4.out.box.cell 3
  have y0 := HL4.out.bare.cell 0
  have y1 := HL4.out.bare.cell 1
  have y2 := HL4.out.bare.cell 2
  have y3 := HL4.out.bare.cell 3
  have v0 := HL4.out.bare.frozen 0
  have v1 := HL4.out.bare.frozen 1
  have v2 := HL4.out.bare.frozen 2
  have v3 := HL4.out.bare.frozen 3
  simp only [List.getElem?_toArray, List.getElem?_cons_zero, List.getElem?_cons_succ] at x0 x1 x2 x3 y0 y1 y2 y3
  rw [HK.out] at x0 y0
  clear L ct ci zt zi nt nt1 ni ni1 nti nit hw1 hm1 hw2 hm2 hc1 hc2 hc3 hd1 hd2 hd3
  go_wp2_with fail
  have C9 := contains_any x.s 13 w4
  rw [H1.out] at C9
  refine C9.mono ?_
  rintro e w' ⟨rfl, rfl⟩
  clear C9
  go_wp2_with fail
  have C9 := contains_any x.s 10 w4
  rw [H2.out] at C9
  refine C9.mono ?_
  rintro e w' ⟨rfl, rfl⟩
  clear C9
  go_wp2_with fail
  refine (must_yes _ _).mono ?_
  rintro e w' ⟨rfl, rfl⟩
  have a1 : ¬ 9223372036854775807 < 1 + x.s.size := by omega
  have a2 : ¬ 9223372036854775807 < 1 + x.s.size + 2 := by omega
  have s0 : IntKind.i64.wrap 0 = 0 := IntWalk.i64_in _ (by omega)
  have s1 : ∀ W, (Instr.slice 9 (.string ⟨#[43, 45]⟩) (some (.int .i64 0)) none none).run Tryz.prog W = .ok (.string ⟨#[43, 45]⟩) W := fun _ => by kernel_rfl
  have s2 : ∀ W, (Instr.slice 9 (.string ⟨#[43, 45]⟩) none (some (.int .i64 1)) none).run Tryz.prog W = .ok (.string ⟨#[43]⟩) W := fun _ => by kernel_rfl
  go_wp2_with fail
  go_still_tail 9, (by kernel_rfl)
  change wpList _ _ _ _ _ w4.drew
  have HL5 := Lib.hid (HL4.out.ext (Ext.refl w4).drew)
  generalize w4.drew = w5 at HL5 ⊢
  clear x0 x1 x2 x3 y0 y1 y2 y3 v0 v1 v2 v3
  have x0 := HL5.out.box.cell 0
  have x1 := HL5.out.box.cell 1
  have x2 := HL5.out.box.cell 2
  have x3 := HL5.out.box.cell 3
  have y0 := HL5.out.bare.cell 0
  have y1 := HL5.out.bare.cell 1
  have y2 := HL5.out.bare.cell 2
  have y3 := HL5.out.bare.cell 3
  have v0 := HL5.out.bare.frozen 0
  have v1 := HL5.out.bare.frozen 1
  have v2 := HL5.out.bare.frozen 2
  have v3 := HL5.out.bare.frozen 3
  simp only [List.getElem?_toArray, List.getElem?_cons_zero, List.getElem?_cons_succ] at x0 x1 x2 x3 y0 y1 y2 y3
  rw [HK.out] at x0 y0
  go_wp2_with fail
  clear s0 s1 s2 a1 a2
  refine (hwrite B bb l _ w5 HL5.out.enc.bld (by rw [app_size, app_size]; show l.length + (1 + x.s.size + 2) ≤ _; omega) HL5.out.enc.base).mono ?_
  rintro e w6 ⟨rfl, h9, b9, k9⟩
  have HL6 := Lib.hid (HL5.out.write h9 b9 k9)
  clear h9 b9 k9
  clear x0 x1 x2 x3 y0 y1 y2 y3 v0 v1 v2 v3
  have x0 := HL6.out.box.cell 0
  have x1 := HL6.out.box.cell 1
  have x2 := HL6.out.box.cell 2
  have x3 := HL6.out.box.cell 3
  have y0 := HL6.out.bare.cell 0
  have y1 := HL6.out.bare.cell 1
  have y2 := HL6.out.bare.cell 2
  have y3 := HL6.out.bare.cell 3
  have v0 := HL6.out.bare.frozen 0
  have v1 := HL6.out.bare.frozen 1
  have v2 := HL6.out.bare.frozen 2
  have v3 := HL6.out.bare.frozen 3
  simp only [List.getElem?_toArray, List.getElem?_cons_zero, List.getElem?_cons_succ] at x0 x1 x2 x3 y0 y1 y2 y3
  rw [HK.out] at x0 y0
  have hB := Nat.le_trans H.out.base (Nat.le_refl _)
  have HL7 := Lib.hid (HL6.out.put 2 (.string x.s) (c1 := .int .i64 0) (c2 := .string x.s) (c3 := .slice none 0 0) (by rfl) hB)
  go_wp2_with fail
  all_goals
    first
    | ((with_reducible refine (must_no _ _).mono ?_)
       rintro e w' ⟨rfl, rfl⟩
       go_wp2_with fail
       exact ⟨rfl, LayE.no (lay_unfine (no12' (.inl HK.out) (by first | exact .inl (by assumption) | exact .inr ⟨by assumption, hb⟩))) HL7.out.below HL7.out.keep rfl⟩)
    | (cases hb : (x.n == (x.l.length : Int)) with
       | false =>
         refine (must_no _ _).mono ?_
         rintro e w' ⟨rfl, rfl⟩
         go_wp2_with fail
         exact ⟨rfl, LayE.no (lay_unfine (no12' (.inl HK.out) (by first | exact .inl (by assumption) | exact .inr ⟨by assumption, hb⟩))) HL7.out.below HL7.out.keep rfl⟩
       | true =>
         refine (must_yes _ _).mono ?_
         rintro e w' ⟨rfl, rfl⟩
         go_wp2_with fail
         refine bodyPost_ret (results_none rfl _ _ _) rfl ?_
         exact lay_done HL7.out (yes12 (.inl HK.out) (by assumption) H1.out H2.out hb) (len_of (by assumption) hb) hs rfl (by rw [enc1 HK.out, app_list, app_list]; simp [lineB]))
end Go.Proofs.YtlfihdcgbhdajaaGreatDoor
