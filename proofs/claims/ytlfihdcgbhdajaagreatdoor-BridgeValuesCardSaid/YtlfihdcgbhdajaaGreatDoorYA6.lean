/- A reply that is laid: kinds 2. A reply that is laid: a list. -/
import Derived.Test.YtlfihdcgbhdajaaGreatDoorYA5
import Derived.Deep.RegionHeld3
import Derived.Deep.LoopGhost
namespace Go.Proofs.YtlfihdcgbhdajaaGreatDoor
open Go.RowKit
set_option linter.unusedVariables false
set_option linter.unusedSimpArgs false

set_option maxRecDepth 100000 in
set_option maxHeartbeats 2000000 in
theorem lay_k2a (w : World) {B tb ib bb fb T I : Nat} {l : List UInt8} (d : Nat) (x : Rep) (q : Option Addr) (c : Nat) (h : EncAt w B tb ib bb fb T I l) (hT : T ≤ 1048576) (hI : I ≤ 65536) (hs : x.s.size ≤ T) (hn : x.l.length ≤ I) (hL : l.length + T + 30 * I + 30 ≤ 100000000) (hk : x.k = 2) (h1 : hasB x.s 13 = true) :
  Calls Tryz.prog 75 #[.agg #[.int .i64 x.k, .int .i64 x.n, .string x.s, .slice q x.l.length c], .int .i64 (d : Int), .pointer (some ⟨tb, 0, none⟩), .pointer (some ⟨ib, 0, none⟩), .pointer (some ⟨bb, 0, none⟩), .pointer (some ⟨fb, 0, none⟩)] w (LayE w B tb ib bb fb T I l d x) := by
 have ct := h.t.cell 0
 have ci := h.i.cell 0
 have zt := h.t.frozen 0
 have zi := h.i.frozen 0
 simp only [List.getElem?_toArray, List.getElem?_cons_zero, List.getElem?_cons_succ] at ct ci
 have lt := h.t.lt
 have li := h.i.lt
 have nt : ¬ tb = w.heap.size := by omega
 have nt1 : ¬ tb = w.heap.size + 1 := by omega
 have ni : ¬ ib = w.heap.size := by omega
 have ni1 : ¬ ib = w.heap.size + 1 := by omega
 have nti : ¬ tb = ib := h.hb.2.2.2.2
 have nit : ¬ ib = tb := fun e => h.hb.2.2.2.2 e.symm
 have H := Lib.hid h
 have H1 := Lib.hid h1
 have hw1 : IntKind.i64.wrap ((T : Int) - (x.s.size : Int)) = (T : Int) - (x.s.size : Int) := IntWalk.i64_in _ (by omega)
 have hm1 : min (x.s.size : Int) 1048577 = (x.s.size : Int) := by omega
 have hw2 : IntKind.i64.wrap ((I : Int) - (x.l.length : Int)) = (I : Int) - (x.l.length : Int) := IntWalk.i64_in _ (by omega)
 have hm2 : min (x.l.length : Int) 65537 = (x.l.length : Int) := by omega
 have hc1 : decide ((0 : Int) ≤ (T : Int) - (x.s.size : Int)) = true := decide_eq_true (by omega)
 have hc2 : decide ((x.s.size : Int) ≤ (T : Int)) = true := decide_eq_true (by omega)
 have hc3 : decide (x.s.size ≤ T) = true := decide_eq_true (by omega)
 have hd1 : decide ((0 : Int) ≤ (I : Int) - (x.l.length : Int)) = true := decide_eq_true (by omega)
 have hd2 : decide ((x.l.length : Int) ≤ (I : Int)) = true := decide_eq_true (by omega)
 have hd3 : decide (x.l.length ≤ I) = true := decide_eq_true (by omega)
 have HT : Hid (((T - x.s.size : Nat) : Int) = (T : Int) - (x.s.size : Int)) := Lib.hid (by omega)
 have HI : Hid (((I - x.l.length : Nat) : Int) = (I : Int) - (x.l.length : Int)) := Lib.hid (by omega)
 have HK := Lib.hid hk
 clear h hk
 clear h1
 go_enter Tryz.func75, Tryz.ntmps75
 go_wp2_with fail
 refine (must_yes _ _).mono ?_
 rintro e w' ⟨rfl, rfl⟩
 have L := lay_start w x (.slice q x.l.length c) (T' := T - x.s.size) (I' := I - x.l.length) H.out
 rw [HT.out, HI.out] at L
 generalize (((w.setCell ⟨tb, 0, none⟩ (.int .i64 ((T : Int) - (x.s.size : Int)))).setCell ⟨ib, 0, none⟩ (.int .i64 ((I : Int) - (x.l.length : Int)))).alloc (.cells #[.int .i64 x.k, .int .i64 x.n, .string x.s, .slice q x.l.length c] 25)).alloc (.cells #[.int .i64 x.k, .int .i64 0, .string ⟨#[]⟩, .slice none 0 0] 25) = w4 at L ⊢
 have HL4 := Lib.hid L
 have x0 := HL4.out.box.cell 0
 have x1 := HL4.out.box.cell 1
 have x2 := HL4.out.box.cell 2
 have x3 := HL4.out.box.cell 3
 have y0 := HL4.out.bare.cell 0
 have y1 := HL4.out.bare.cell 1
 have y2 := HL4.out.bare.cell 2
 have y3 := HL4.out.bare.cell 3
 have v0 := HL4.out.bare.frozen 0
 have v1 := HL4.out.bare.frozen 1
 have v2 := HL4.out.bare.frozen 2
 have v3 := HL4.out.bare.frozen 3
 simp only [List.getElem?_toArray, List.getElem?_cons_zero, List.getElem?_cons_succ] at x0 x1 x2 x3 y0 y1 y2 y3
 rw [HK.out] at x0 y0
 clear L ct ci zt zi nt nt1 ni ni1 nti nit hw1 hm1 hw2 hm2 hc1 hc2 hc3 hd1 hd2 hd3
 go_wp2_with fail
 have C9 := contains_any x.s 13 w4
 rw [H1.out] at C9
 refine C9.mono ?_
 rintro e w' ⟨rfl, rfl⟩
 clear C9
 go_wp2_with fail
 refine (must_no _ _).mono ?_
 rintro e w' ⟨rfl, rfl⟩
 go_wp2_with fail
 exact ⟨rfl, LayE.no (lay_unfine (no12 (.inr HK.out) (.inl H1.out))) HL4.out.below HL4.out.keep rfl⟩
set_option maxRecDepth 100000 in
set_option maxHeartbeats 2000000 in
theorem lay_k2b (w : World) {B tb ib bb fb T I : Nat} {l : List UInt8} (d : Nat) (x : Rep) (q : Option Addr) (c : Nat) (h : EncAt w B tb ib bb fb T I l) (hT : T ≤ 1048576) (hI : I ≤ 65536) (hs : x.s.size ≤ T) (hn : x.l.length ≤ I) (hL : l.length + T + 30 * I + 30 ≤ 100000000) (hk : x.k = 2) (h1 : hasB x.s 13 = false) (h2 : hasB x.s 10 = true) :
  Calls Tryz.prog 75 #[.agg #[.int .i64 x.k, .int .i64 x.n, .string x.s, .slice q x.l.length c], .int .i64 (d : Int), .pointer (some ⟨tb, 0, none⟩), .pointer (some ⟨ib, 0, none⟩), .pointer (some ⟨bb, 0, none⟩), .pointer (some ⟨fb, 0, none⟩)] w (LayE w B tb ib bb fb T I l d x) := by
 have ct := h.t.cell 0
 have ci := h.i.cell 0
 have zt := h.t.frozen 0
 have zi := h.i.frozen 0
 simp only [List.getElem?_toArray, List.getElem?_cons_zero, List.getElem?_cons_succ] at ct ci
 have lt := h.t.lt
 have li := h.i.lt
 have nt : ¬ tb = w.heap.size := by omega
 have nt1 : ¬ tb = w.heap.size + 1 := by omega
 have ni : ¬ ib = w.heap.size := by omega
 have ni1 : ¬ ib = w.heap.size + 1 := by omega
 have nti : ¬ tb = ib := h.hb.2.2.2.2
 have nit : ¬ ib = tb := fun e => h.hb.2.2.2.2 e.symm
 have H := Lib.hid h
 have H1 := Lib.hid h1
 have H2 := Lib.hid h2
 have hw1 : IntKind.i64.wrap ((T : Int) - (x.s.size : Int)) = (T : Int) - (x.s.size : Int) := IntWalk.i64_in _ (by omega)
 have hm1 : min (x.s.size : Int) 1048577 = (x.s.size : Int) := by omega
 have hw2 : IntKind.i64.wrap ((I : Int) - (x.l.length : Int)) = (I : Int) - (x.l.length : Int) := IntWalk.i64_in _ (by omega)
 have hm2 : min (x.l.length : Int) 65537 = (x.l.length : Int) := by omega
 have hc1 : decide ((0 : Int) ≤ (T : Int) - (x.s.size : Int)) = true := decide_eq_true (by omega)
 have hc2 : decide ((x.s.size : Int) ≤ (T : Int)) = true := decide_eq_true (by omega)
 have hc3 : decide (x.s.size ≤ T) = true := decide_eq_true (by omega)
 have hd1 : decide ((0 : Int) ≤ (I : Int) - (x.l.length : Int)) = true := decide_eq_true (by omega)
 have hd2 : decide ((x.l.length : Int) ≤ (I : Int)) = true := decide_eq_true (by omega)
 have hd3 : decide (x.l.length ≤ I) = true := decide_eq_true (by omega)
 have HT : Hid (((T - x.s.size : Nat) : Int) = (T : Int) - (x.s.size : Int)) := Lib.hid (by omega)
 have HI : Hid (((I - x.l.length : Nat) : Int) = (I : Int) - (x.l.length : Int)) := Lib.hid (by omega)
 have HK := Lib.hid hk
 clear h hk
 clear h1 h2
 go_enter Tryz.func75, Tryz.ntmps75
 go_wp2_with fail
 refine (must_yes _ _).mono ?_
 rintro e w' ⟨rfl, rfl⟩
 have L := lay_start w x (.slice q x.l.length c) (T' := T - x.s.size) (I' := I - x.l.length) H.out
 rw [HT.out, HI.out] at L
 generalize (((w.setCell ⟨tb, 0, none⟩ (.int .i64 ((T : Int) - (x.s.size : Int)))).setCell ⟨ib, 0, none⟩ (.int .i64 ((I : Int) - (x.l.length : Int)))).alloc (.cells #[.int .i64 x.k, .int .i64 x.n, .string x.s, .slice q x.l.length c] 25)).alloc (.cells #[.int .i64 x.k, .int .i64 0, .string ⟨#[]⟩, .slice none 0 0] 25) = w4 at L ⊢
 have HL4 := Lib.hid L
 have x0 := HL4.out.box.cell 0
 have x1 := HL4.out.box.cell 1
 have x2 := HL4.out.box.cell 2
 have x3 := HL4.out.box.cell 3
 have y0 := HL4.out.bare.cell 0
 have y1 := HL4.out.bare.cell 1
 have y2 := HL4.out.bare.cell 2
 have y3 := HL4.out.bare.cell 3
 have v0 := HL4.out.bare.frozen 0
 have v1 := HL4.out.bare.frozen 1
 have v2 := HL4.out.bare.frozen 2
 have v3 := HL4.out.bare.frozen 3
 simp only [List.getElem?_toArray, List.getElem?_cons_zero, List.getElem?_cons_succ] at x0 x1 x2 x3 y0 y1 y2 y3
 rw [HK.out] at x0 y0
 clear L ct ci zt zi nt nt1 ni ni1 nti nit hw1 hm1 hw2 hm2 hc1 hc2 hc3 hd1 hd2 hd3
 go_wp2_with fail
 have C9 := contains_any x.s 13 w4
 rw [H1.out] at C9
 refine C9.mono ?_
 rintro e w' ⟨rfl, rfl⟩
 clear C9
 go_wp2_with fail
 have C9 := contains_any x.s 10 w4
 rw [H2.out] at C9
 refine C9.mono ?_
 rintro e w' ⟨rfl, rfl⟩
 clear C9
 go_wp2_with fail
 refine (must_no _ _).mono ?_
 rintro e w' ⟨rfl, rfl⟩
 go_wp2_with fail
 exact ⟨rfl, LayE.no (lay_unfine (no12 (.inr HK.out) (.inr H2.out))) HL4.out.below HL4.out.keep rfl⟩
set_option maxRecDepth 100000 in
set_option maxHeartbeats 2000000 in
theorem lay_k2c (w : World) {B tb ib bb fb T I : Nat} {l : List UInt8} (d : Nat) (x : Rep) (q : Option Addr) (c : Nat) (h : EncAt w B tb ib bb fb T I l) (hT : T ≤ 1048576) (hI : I ≤ 65536) (hs : x.s.size ≤ T) (hn : x.l.length ≤ I) (hL : l.length + T + 30 * I + 30 ≤ 100000000) (hk : x.k = 2) (h1 : hasB x.s 13 = false) (h2 : hasB x.s 10 = false) :
    Calls Tryz.prog 75 #[.agg #[.int .i64 x.k, .int .i64 x.n, .string x.s, .slice q x.l.length c], .int .i64 (d : Int), .pointer (some ⟨tb, 0, none⟩), .pointer (some ⟨ib, 0, none⟩), .pointer (some ⟨bb, 0, none⟩), .pointer (some ⟨fb, 0, none⟩)] w (LayE w B tb ib bb fb T I l d x) := by
  have ct := h.t.cell 0
  have ci := h.i.cell 0
  have zt := h.t.frozen 0
  have zi := h.i.frozen 0
  simp only [List.getElem?_toArray, List.getElem?_cons_zero, List.getElem?_cons_succ] at ct ci
  have lt := h.t.lt
  have li := h.i.lt
  have nt : ¬ tb = w.heap.size := by omega
  have nt1 : ¬ tb = w.heap.size + 1 := by omega
  have ni : ¬ ib = w.heap.size := by omega
  have ni1 : ¬ ib = w.heap.size + 1 := by omega
  have nti : ¬ tb = ib := h.hb.2.2.2.2
  have nit : ¬ ib = tb := fun e => h.hb.2.2.2.2 e.symm
  have H := Lib.hid h
  have H1 := Lib.hid h1
  have H2 := Lib.hid h2
  have hw1 : IntKind.i64.wrap ((T : Int) - (x.s.size : Int)) = (T : Int) - (x.s.size : Int) := IntWalk.i64_in _ (by omega)
  have hm1 : min (x.s.size : Int) 1048577 = (x.s.size : Int) := by omega
  have hw2 : IntKind.i64.wrap ((I : Int) - (x.l.length : Int)) = (I : Int) - (x.l.length : Int) := IntWalk.i64_in _ (by omega)
  have hm2 : min (x.l.length : Int) 65537 = (x.l.length : Int) := by omega
  have hc1 : decide ((0 : Int) ≤ (T : Int) - (x.s.size : Int)) = true := decide_eq_true (by omega)
  have hc2 : decide ((x.s.size : Int) ≤ (T : Int)) = true := decide_eq_true (by omega)
  have hc3 : decide (x.s.size ≤ T) = true := decide_eq_true (by omega)
  have hd1 : decide ((0 : Int) ≤ (I : Int) - (x.l.length : Int)) = true := decide_eq_true (by omega)
  have hd2 : decide ((x.l.length : Int) ≤ (I : Int)) = true := decide_eq_true (by omega)
  have hd3 : decide (x.l.length ≤ I) = true := decide_eq_true (by omega)
  have HT : Hid (((T - x.s.size : Nat) : Int) = (T : Int) - (x.s.size : Int)) := Lib.hid (by omega)
  have HI : Hid (((I - x.l.length : Nat) : Int) = (I : Int) - (x.l.length : Int)) := Lib.hid (by omega)
  have HK := Lib.hid hk
  clear h hk
  clear h1 h2
  go_enter Tryz.func75, Tryz.ntmps75
  go_wp2_with fail
  refine (must_yes _ _).mono ?_
  rintro e w' ⟨rfl, rfl⟩
  have L := lay_start w x (.slice q x.l.length c) (T' := T - x.s.size) (I' := I - x.l.length) H.out
  rw [HT.out, HI.out] at L
  generalize (((w.setCell ⟨tb, 0, none⟩ (.int .i64 ((T : Int) - (x.s.size : Int)))).setCell ⟨ib, 0, none⟩ (.int .i64 ((I : Int) - (x.l.length : Int)))).alloc (.cells #[.int .i64 x.k, .int .i64 x.n, .string x.s, .slice q x.l.length c] 25)).alloc (.cells #[.int .i64 x.k, .int .i64 0, .string ⟨#[]⟩, .slice none 0 0] 25) = w4 at L ⊢
  have HL4 := Lib.hid L
  have x0 := HL4.out.box.cell 0
  have x1 := HL4.out.box.cell 1
  have x2 := HL4.out.box.cell 2
  have x3 := HL4.out.box.cell 3
  have y0 := HL4.out.bare.cell 0
  have y1 := HL4.out.bare.cell 1
  have y2 := HL4.out.bare.cell 2
  have y3 := HL4.out.bare.cell 3
  have v0 := HL4.out.bare.frozen 0
  have v1 := HL4.out.bare.frozen 1
  have v2 := HL4.out.bare.frozen 2
  have v3 := HL4.out.bare.frozen 3
  simp only [List.getElem?_toArray, List.getElem?_cons_zero, List.getElem?_cons_succ] at x0 x1 x2 x3 y0 y1 y2 y3
  rw [HK.out] at x0 y0
  clear L ct ci zt zi nt nt1 ni ni1 nti nit hw1 hm1 hw2 hm2 hc1 hc2 hc3 hd1 hd2 hd3
  go_wp2_with fail
  have C9 := contains_any x.s 13 w4
  rw [H1.out] at C9
  refine C9.mono ?_
  rintro e w' ⟨rfl, rfl⟩
  clear C9
  go_wp2_with fail
  have C9 := contains_any x.s 10 w4
  rw [H2.out] at C9
  refine C9.mono ?_
  rintro e w' ⟨rfl, rfl⟩
  clear C9
  go_wp2_with fail
  refine (must_yes _ _).mono ?_
  rintro e w' ⟨rfl, rfl⟩
  have a1 : ¬ 9223372036854775807 < 1 + x.s.size := by omega
  have a2 : ¬ 9223372036854775807 < 1 + x.s.size + 2 := by omega
  have s0 : IntKind.i64.wrap 1 = 1 := IntWalk.i64_in _ (by omega)
  have s1 : ∀ W, (Instr.slice 9 (.string ⟨#[43, 45]⟩) (some (.int .i64 1)) none none).run Tryz.prog W = .ok (.string ⟨#[45]⟩) W := fun _ => by kernel_rfl
  have s2 : ∀ W, (Instr.slice 9 (.string ⟨#[45]⟩) none (some (.int .i64 1)) none).run Tryz.prog W = .ok (.string ⟨#[45]⟩) W := fun _ => by kernel_rfl
  go_wp2_with fail
  go_still_tail 9, (by kernel_rfl)
  change wpList _ _ _ _ _ w4.drew
  have HL5 := Lib.hid (HL4.out.ext (Ext.refl w4).drew)
  generalize w4.drew = w5 at HL5 ⊢
  clear x0 x1 x2 x3 y0 y1 y2 y3 v0 v1 v2 v3
  have x0 := HL5.out.box.cell 0
  have x1 := HL5.out.box.cell 1
  have x2 := HL5.out.box.cell 2
  have x3 := HL5.out.box.cell 3
  have y0 := HL5.out.bare.cell 0
  have y1 := HL5.out.bare.cell 1
  have y2 := HL5.out.bare.cell 2
  have y3 := HL5.out.bare.cell 3
  have v0 := HL5.out.bare.frozen 0
  have v1 := HL5.out.bare.frozen 1
  have v2 := HL5.out.bare.frozen 2
  have v3 := HL5.out.bare.frozen 3
  simp only [List.getElem?_toArray, List.getElem?_cons_zero, List.getElem?_cons_succ] at x0 x1 x2 x3 y0 y1 y2 y3
  rw [HK.out] at x0 y0
  go_wp2_with fail
  clear s0 s1 s2 a1 a2
  refine (hwrite B bb l _ w5 HL5.out.enc.bld (by rw [app_size, app_size]; show l.length + (1 + x.s.size + 2) ≤ _; omega) HL5.out.enc.base).mono ?_
  rintro e w6 ⟨rfl, h9, b9, k9⟩
  have HL6 := Lib.hid (HL5.out.write h9 b9 k9)
  clear h9 b9 k9
  clear x0 x1 x2 x3 y0 y1 y2 y3 v0 v1 v2 v3
  have x0 := HL6.out.box.cell 0
  have x1 := HL6.out.box.cell 1
  have x2 := HL6.out.box.cell 2
  have x3 := HL6.out.box.cell 3
  have y0 := HL6.out.bare.cell 0
  have y1 := HL6.out.bare.cell 1
  have y2 := HL6.out.bare.cell 2
  have y3 := HL6.out.bare.cell 3
  have v0 := HL6.out.bare.frozen 0
  have v1 := HL6.out.bare.frozen 1
  have v2 := HL6.out.bare.frozen 2
  have v3 := HL6.out.bare.frozen 3
  simp only [List.getElem?_toArray, List.getElem?_cons_zero, List.getElem?_cons_succ] at x0 x1 x2 x3 y0 y1 y2 y3
  rw [HK.out] at x0 y0
  have hB := Nat.le_trans H.out.base (Nat.le_refl _)
  have HL7 := Lib.hid (HL6.out.put 2 (.string x.s) (c1 := .int .i64 0) (c2 := .string x.s) (c3 := .slice none 0 0) (by rfl) hB)
  go_wp2_with fail
  all_goals
    first
    | ((with_reducible refine (must_no _ _).mono ?_)
       rintro e w' ⟨rfl, rfl⟩
       go_wp2_with fail
       exact ⟨rfl, LayE.no (lay_unfine (no12' (.inr HK.out) (by first | exact .inl (by assumption) | exact .inr ⟨by assumption, hb⟩))) HL7.out.below HL7.out.keep rfl⟩)
    | (cases hb : (x.n == (x.l.length : Int)) with
       | false =>
         refine (must_no _ _).mono ?_
         rintro e w' ⟨rfl, rfl⟩
         go_wp2_with fail
         exact ⟨rfl, LayE.no (lay_unfine (no12' (.inr HK.out) (by first | exact .inl (by assumption) | exact .inr ⟨by assumption, hb⟩))) HL7.out.below HL7.out.keep rfl⟩
       | true =>
         refine (must_yes _ _).mono ?_
         rintro e w' ⟨rfl, rfl⟩
         go_wp2_with fail
         refine bodyPost_ret (results_none rfl _ _ _) rfl ?_
         exact lay_done HL7.out (yes12 (.inr HK.out) (by assumption) H1.out H2.out hb) (len_of (by assumption) hb) hs rfl (by rw [enc2 HK.out, app_list, app_list]; simp [lineB]))
end Go.Proofs.YtlfihdcgbhdajaaGreatDoor
namespace Go.Proofs.YtlfihdcgbhdajaaGreatDoor
open Go.RowKit
set_option linter.unusedVariables false
set_option linter.unusedSimpArgs false

theorem txL_append (a b : List Rep) : txL (a ++ b) = txL a + txL b := by
 induction a with
 | nil => simp [txL]
 | cons x a ih => simp only [List.cons_append, txL, ih]; omega
theorem itL_append (a b : List Rep) : itL (a ++ b) = itL a + itL b := by
 induction a with
 | nil => simp [itL]
 | cons x a ih => simp only [List.cons_append, itL, ih]; omega
theorem txL_next (l : List Rep) (j : Nat) (h : j < l.length) : txL (l.take (j + 1)) = txL (l.take j) + txR l[j] := by
 rw [List.take_succ_eq_append_getElem h, txL_append]; simp [txL]
theorem itL_next (l : List Rep) (j : Nat) (h : j < l.length) : itL (l.take (j + 1)) = itL (l.take j) + itR l[j] := by
 rw [List.take_succ_eq_append_getElem h, itL_append]; simp [itL]
theorem txL_le (l : List Rep) (j : Nat) : txL (l.take j) ≤ txL l := by
 have h := txL_append (l.take j) (l.drop j)
 rw [List.take_append_drop] at h
 omega
theorem itL_le (l : List Rep) (j : Nat) : itL (l.take j) ≤ itL l := by
 have h := itL_append (l.take j) (l.drop j)
 rw [List.take_append_drop] at h
 omega
theorem encL_append (a b : List Rep) : encL (a ++ b) = encL a ++ encL b := by
 induction a with
 | nil => rfl
 | cons x a ih => simp [encL, ih]
theorem encL_next (l : List Rep) (j : Nat) (h : j < l.length) : encL (l.take (j + 1)) = encL (l.take j) ++ encR l[j] := by
 rw [List.take_succ_eq_append_getElem h, encL_append]; simp [encL]
theorem i64L_all {l : List Rep} (h : i64L l) : ∀ x ∈ l, i64R x := by
 induction l with
 | nil => intro x hx; cases hx
 | cons y l ih =>
  intro x hx
  rcases List.mem_cons.mp hx with rfl | hx
  ·exact h.1
  ·exact ih h.2 x hx
theorem i64L_take {l : List Rep} (h : i64L l) (j : Nat) : i64L (l.take j) := by
 induction l generalizing j with
 | nil => simp [i64L]
 | cons y l ih =>
  cases j with
  | zero => simp [i64L]
  | succ j => exact ⟨h.1, ih h.2 j⟩
theorem tx_split {x : Rep} : txR x = x.s.size + txL x.l := by obtain ⟨k, n, s, l⟩ := x; rfl
theorem it_split {x : Rep} : itR x = x.l.length + itL x.l := by obtain ⟨k, n, s, l⟩ := x; rfl
structure Fits (d : Nat) (x : Rep) (T I j : Nat) : Prop where
 fine : (x.l.take j).all (fineR d) = true
 tx : x.s.size + txL (x.l.take j) ≤ T
 it : x.l.length + itL (x.l.take j) ≤ I
theorem Fits.next {d : Nat} {x : Rep} {T I j : Nat} (h : Fits d x T I j) (hj : j < x.l.length) (hk : layOk d x.l[j] (T - x.s.size - txL (x.l.take j)) (I - x.l.length - itL (x.l.take j)) = true) : Fits d x T I (j + 1) := by
 simp only [layOk, Bool.and_eq_true, decide_eq_true_eq] at hk
 obtain ⟨⟨h1, h2⟩, h3⟩ := hk
 have := h.tx
 have := h.it
 exact ⟨by rw [List.take_succ_eq_append_getElem hj, List.all_append, h.fine]; simp [h1], by rw [txL_next _ _ hj]; omega, by rw [itL_next _ _ hj]; omega⟩
theorem Fits.fails {d : Nat} {x : Rep} {T I j : Nat} (hx : x.k = 5) (h : Fits d x T I j) (hj : j < x.l.length) (hk : layOk d x.l[j] (T - x.s.size - txL (x.l.take j)) (I - x.l.length - itL (x.l.take j)) = false) : layOk (d + 1) x T I = false := by
 cases hc : layOk (d + 1) x T I with
 | false => rfl
 | true =>
  exfalso
  simp only [layOk, Bool.and_eq_true, decide_eq_true_eq] at hc
  obtain ⟨⟨h1, h2⟩, h3⟩ := hc
  rw [fine5 hx] at h1
  simp only [Bool.and_eq_true] at h1
  have h4 : fineR d x.l[j] = true := (List.all_eq_true.mp h1.2) _ (List.getElem_mem hj)
  have t1 := txL_next x.l j hj
  have t2 := txL_le x.l (j + 1)
  have i1 := itL_next x.l j hj
  have i2 := itL_le x.l (j + 1)
  rw [tx_split] at h2
  rw [it_split] at h3
  have h5 : decide (txR x.l[j] ≤ T - x.s.size - txL (x.l.take j)) = true := decide_eq_true (by omega)
  have h6 : decide (itR x.l[j] ≤ I - x.l.length - itL (x.l.take j)) = true := decide_eq_true (by omega)
  simp [layOk, h4, h5, h6] at hk
theorem Fits.all {d : Nat} {x : Rep} {T I : Nat} (hx : x.k = 5) (h : Fits d x T I x.l.length) (hn : (0 : Int) = x.n) (hs : x.s.toList = []) : layOk (d + 1) x T I = true := by
 have h1 := h.fine
 have h2 := h.tx
 have h3 := h.it
 rw [List.take_length] at h1 h2 h3
 have h4 : decide (txR x ≤ T) = true := decide_eq_true (by rw [tx_split]; exact h2)
 have h5 : decide (itR x ≤ I) = true := decide_eq_true (by rw [it_split]; exact h3)
 simp only [layOk, fine5 hx, h1, h4, h5, ← hn, to_nil.1 hs]
 rfl
theorem no5 {d : Nat} {x : Rep} (hk : x.k = 5) (h : ¬ (0 : Int) = x.n ∨ ¬ x.s.toList = []) : fineR (d + 1) x = false := by
 rw [fine5 hk]
 rcases h with h | h
 ·have : (x.n == 0) = false := by simp; omega
  simp [this]
 ·rw [to_nil] at h; simp [h]
theorem LayAt.sub {w w6 w7 : World} {B tb ib bb fb T1 I1 T2 I2 : Nat} {l1 l2 : List UInt8} {x : Rep} {lv b1 b2 b3 : Value} (h : LayAt w w6 B tb ib bb fb T1 I1 l1 x lv b1 b2 b3) (hb : Below B w6 w7) (hk : KeepL w6 w7) (he : EncAt w7 B tb ib bb fb T2 I2 l2) : LayAt w w7 B tb ib bb fb T2 I2 l2 x lv b1 b2 b3 :=
 ⟨he, hk _ _ _ h.box (by decide) (by decide) (by decide), hk _ _ _ h.bare (by decide) (by decide) (by decide), h.below.trans hb, h.keep.trans hk⟩
theorem ListAt.below {B : Nat} {w w' : World} (he : Below B w w') {D : Nat} {v : Value} {l : List Rep} (h : ListAt (fun b => b < B) w D v l) : ListAt (fun b => b < B) w' D v l :=
 h.keep (fun b o x hb hc => (he.cell (p := ⟨b, o, none⟩) hb).trans hc) (fun _ _ h => h)
theorem list_elem {ok : Nat → Prop} {w : World} {D : Nat} {q : Option Addr} {c : Nat} {l : List Rep} (h : ListAt ok w D (.slice q l.length c) l) {j : Nat} (hj : j < l.length) :
  ∃ b o, q = some ⟨b, o, none⟩ ∧ ok b ∧ w.cell? ⟨b, o + j * 4, none⟩ = some (.int .i64 l[j].k) ∧ w.cell? ⟨b, o + j * 4 + 1, none⟩ = some (.int .i64 l[j].n) ∧ w.cell? ⟨b, o + j * 4 + 2, none⟩ = some (.string l[j].s) ∧
   ∃ q2 c2, w.cell? ⟨b, o + j * 4 + 3, none⟩ = some (.slice q2 l[j].l.length c2) ∧ ListAt ok w (D - 1) (.slice q2 l[j].l.length c2) l[j].l := by
 cases D with
 | zero => obtain ⟨rfl, _⟩ := h; simp at hj
 | succ D =>
  obtain ⟨q', c', e, hq⟩ := h
  obtain ⟨b, o, e1, hb, hx⟩ := hq (by omega)
  obtain ⟨h1, h2, h3, lv, h4, h5⟩ := hx j hj
  obtain ⟨q2, c2, rfl⟩ := h5.slice
  injection e with e2 _ _
  exact ⟨b, o, e2.trans e1, hb, h1, h2, h3, q2, c2, h4, h5⟩
def LayAll (B tb ib bb fb d : Nat) : Prop :=
 ∀ (w : World) (T I : Nat) (l : List UInt8) (x : Rep) (q : Option Addr) (c D : Nat), EncAt w B tb ib bb fb T I l → T ≤ 1048576 → I ≤ 65536 → l.length + T + 30 * I + 30 ≤ 100000000 → ListAt (fun b => b < B) w D (.slice q x.l.length c) x.l → i64R x →
  Calls Tryz.prog 75 #[.agg #[.int .i64 x.k, .int .i64 x.n, .string x.s, .slice q x.l.length c], .int .i64 (d : Int), .pointer (some ⟨tb, 0, none⟩), .pointer (some ⟨ib, 0, none⟩), .pointer (some ⟨bb, 0, none⟩), .pointer (some ⟨fb, 0, none⟩)] w (LayE w B tb ib bb fb T I l d x)
set_option maxRecDepth 100000 in
set_option maxHeartbeats 2000000 in
theorem lay_k5 (w : World) {B tb ib bb fb T I : Nat} {l : List UInt8} (d : Nat) (x : Rep) (q : Option Addr) (c : Nat) (h : EncAt w B tb ib bb fb T I l) (hT : T ≤ 1048576) (hI : I ≤ 65536) (hs : x.s.size ≤ T) (hn : x.l.length ≤ I) (hL : l.length + T + 30 * I + 30 ≤ 100000000) (hk : x.k = 5) (D : Nat) (hd : d ≤ 1000) (hv : ListAt (fun b => b < B) w D (.slice q x.l.length c) x.l) (h6 : i64L x.l) (hsub : LayAll B tb ib bb fb d) :
    Calls Tryz.prog 75 #[.agg #[.int .i64 x.k, .int .i64 x.n, .string x.s, .slice q x.l.length c], .int .i64 ((d + 1 : Nat) : Int), .pointer (some ⟨tb, 0, none⟩), .pointer (some ⟨ib, 0, none⟩), .pointer (some ⟨bb, 0, none⟩), .pointer (some ⟨fb, 0, none⟩)] w (LayE w B tb ib bb fb T I l (d + 1) x) := by
  have ct := h.t.cell 0
  have ci := h.i.cell 0
  have zt := h.t.frozen 0
  have zi := h.i.frozen 0
  simp only [List.getElem?_toArray, List.getElem?_cons_zero, List.getElem?_cons_succ] at ct ci
  have lt := h.t.lt
  have li := h.i.lt
  have nt : ¬ tb = w.heap.size := by omega
  have nt1 : ¬ tb = w.heap.size + 1 := by omega
  have ni : ¬ ib = w.heap.size := by omega
  have ni1 : ¬ ib = w.heap.size + 1 := by omega
  have nti : ¬ tb = ib := h.hb.2.2.2.2
  have nit : ¬ ib = tb := fun e => h.hb.2.2.2.2 e.symm
  have H := Lib.hid h
  have HV := Lib.hid hv
  have HS6 := Lib.hid h6
  have HSUB := Lib.hid hsub
  have hdp : decide ((0 : Int) < ((d + 1 : Nat) : Int)) = true := by simp
  have hwd : IntKind.i64.wrap ((d : Int) + 1 - 1) = (d : Int) := by rw [IntWalk.i64_in _ (by omega)]; omega
  have hwd2 : IntKind.i64.wrap (d : Int) = (d : Int) := IntWalk.i64_in _ (by omega)
  clear hv h6 hsub
  have hw1 : IntKind.i64.wrap ((T : Int) - (x.s.size : Int)) = (T : Int) - (x.s.size : Int) := IntWalk.i64_in _ (by omega)
  have hm1 : min (x.s.size : Int) 1048577 = (x.s.size : Int) := by omega
  have hw2 : IntKind.i64.wrap ((I : Int) - (x.l.length : Int)) = (I : Int) - (x.l.length : Int) := IntWalk.i64_in _ (by omega)
  have hm2 : min (x.l.length : Int) 65537 = (x.l.length : Int) := by omega
  have hc1 : decide ((0 : Int) ≤ (T : Int) - (x.s.size : Int)) = true := decide_eq_true (by omega)
  have hc2 : decide ((x.s.size : Int) ≤ (T : Int)) = true := decide_eq_true (by omega)
  have hc3 : decide (x.s.size ≤ T) = true := decide_eq_true (by omega)
  have hd1 : decide ((0 : Int) ≤ (I : Int) - (x.l.length : Int)) = true := decide_eq_true (by omega)
  have hd2 : decide ((x.l.length : Int) ≤ (I : Int)) = true := decide_eq_true (by omega)
  have hd3 : decide (x.l.length ≤ I) = true := decide_eq_true (by omega)
  have HT : Hid (((T - x.s.size : Nat) : Int) = (T : Int) - (x.s.size : Int)) := Lib.hid (by omega)
  have HI : Hid (((I - x.l.length : Nat) : Int) = (I : Int) - (x.l.length : Int)) := Lib.hid (by omega)
  have HK := Lib.hid hk
  clear h hk
  go_enter Tryz.func75, Tryz.ntmps75
  go_wp2_with fail
  refine (must_yes _ _).mono ?_
  rintro e w' ⟨rfl, rfl⟩
  have L := lay_start w x (.slice q x.l.length c) (T' := T - x.s.size) (I' := I - x.l.length) H.out
  rw [HT.out, HI.out] at L
  generalize (((w.setCell ⟨tb, 0, none⟩ (.int .i64 ((T : Int) - (x.s.size : Int)))).setCell ⟨ib, 0, none⟩ (.int .i64 ((I : Int) - (x.l.length : Int)))).alloc (.cells #[.int .i64 x.k, .int .i64 x.n, .string x.s, .slice q x.l.length c] 25)).alloc (.cells #[.int .i64 x.k, .int .i64 0, .string ⟨#[]⟩, .slice none 0 0] 25) = w4 at L ⊢
  have HL4 := Lib.hid L
  have x0 := HL4.out.box.cell 0
  have x1 := HL4.out.box.cell 1
  have x2 := HL4.out.box.cell 2
  have x3 := HL4.out.box.cell 3
  have y0 := HL4.out.bare.cell 0
  have y1 := HL4.out.bare.cell 1
  have y2 := HL4.out.bare.cell 2
  have y3 := HL4.out.bare.cell 3
  have v0 := HL4.out.bare.frozen 0
  have v1 := HL4.out.bare.frozen 1
  have v2 := HL4.out.bare.frozen 2
  have v3 := HL4.out.bare.frozen 3
  simp only [List.getElem?_toArray, List.getElem?_cons_zero, List.getElem?_cons_succ] at x0 x1 x2 x3 y0 y1 y2 y3
  rw [HK.out] at x0 y0
  clear L ct ci zt zi nt nt1 ni ni1 nti nit hw1 hm1 hw2 hm2 hc1 hc2 hc3 hd1 hd2 hd3
  go_wp2_with fail
  refine (must_yes _ _).mono ?_
  rintro e w' ⟨rfl, rfl⟩
  go_wp2_with fail
  refine (itoa_any (x.l.length : Int) w4 HL4.out.enc.pow.1 (by omega) (by omega)).mono ?_
  rintro e w5 ⟨rfl, e5⟩
  have HL5 := Lib.hid (HL4.out.ext e5)
  clear e5
  clear x0 x1 x2 x3 y0 y1 y2 y3 v0 v1 v2 v3
  have x0 := HL5.out.box.cell 0
  have x1 := HL5.out.box.cell 1
  have x2 := HL5.out.box.cell 2
  have x3 := HL5.out.box.cell 3
  have y0 := HL5.out.bare.cell 0
  have y1 := HL5.out.bare.cell 1
  have y2 := HL5.out.bare.cell 2
  have y3 := HL5.out.bare.cell 3
  have v0 := HL5.out.bare.frozen 0
  have v1 := HL5.out.bare.frozen 1
  have v2 := HL5.out.bare.frozen 2
  have v3 := HL5.out.bare.frozen 3
  simp only [List.getElem?_toArray, List.getElem?_cons_zero, List.getElem?_cons_succ] at x0 x1 x2 x3 y0 y1 y2 y3
  rw [HK.out] at x0 y0
  have hz := its_len x.l.length (by omega)
  have HD := Lib.hid (itS_size x.l.length)
  generalize itS (x.l.length : Int) = ds at hz HD ⊢
  have a1 : ¬ 9223372036854775807 < 1 + ds.size := by omega
  have a2 : ¬ 9223372036854775807 < 1 + ds.size + 2 := by omega
  go_wp2_with fail
  refine (hwrite B bb l _ w5 HL5.out.enc.bld (by rw [app_size, app_size]; show l.length + (1 + ds.size + 2) ≤ _; omega) HL5.out.enc.base).mono ?_
  rintro e w6 ⟨rfl, h9, b9, k9⟩
  have HL6 := Lib.hid (HL5.out.write h9 b9 k9)
  clear h9 b9 k9
  clear x0 x1 x2 x3 y0 y1 y2 y3 v0 v1 v2 v3
  have x0 := HL6.out.box.cell 0
  have x1 := HL6.out.box.cell 1
  have x2 := HL6.out.box.cell 2
  have x3 := HL6.out.box.cell 3
  have y0 := HL6.out.bare.cell 0
  have y1 := HL6.out.bare.cell 1
  have y2 := HL6.out.bare.cell 2
  have y3 := HL6.out.bare.cell 3
  have v0 := HL6.out.bare.frozen 0
  have v1 := HL6.out.bare.frozen 1
  have v2 := HL6.out.bare.frozen 2
  have v3 := HL6.out.bare.frozen 3
  simp only [List.getElem?_toArray, List.getElem?_cons_zero, List.getElem?_cons_succ] at x0 x1 x2 x3 y0 y1 y2 y3
  rw [HK.out] at x0 y0
  have HM : Hid (LayAt w w6 B tb ib bb fb (T - x.s.size - txL (x.l.take 0)) (I - x.l.length - itL (x.l.take 0)) (l ++ (42 :: lineB (Lib.decDigits x.l.length)) ++ encL (x.l.take 0)) x (.slice q x.l.length c) (.int .i64 0) (.string ⟨#[]⟩) (.slice none 0 0)) := Lib.hid (by
    have h9 := HL6.out
    rw [app_list, app_list, HD.out] at h9
    simpa [lineB, txL, itL, encL] using h9)
  have HF : Hid (Fits d x T I 0) := Lib.hid ⟨rfl, by simpa [txL] using hs, by simpa [itL] using hn⟩
  clear a1 a2 hz HD HL4 HL5 HL6
  go_wp2_with fail
  clear x0 x1 x2 x3 y0 y1 y2 y3 v0 v1 v2 v3
  go_loopw [108] (fun v wr => ∃ j : Nat, v = .int .i64 j ∧ j ≤ x.l.length ∧ Hid (Fits d x T I j) ∧ Hid (LayAt w wr B tb ib bb fb (T - x.s.size - txL (x.l.take j)) (I - x.l.length - itL (x.l.take j)) (l ++ (42 :: lineB (Lib.decDigits x.l.length)) ++ encL (x.l.take j)) x (.slice q x.l.length c) (.int .i64 0) (.string ⟨#[]⟩) (.slice none 0 0))) (fun v _ => x.l.length - (intOf v).toNat)
  case atStart => exact ⟨0, rfl, Nat.zero_le _, HF, HM⟩
  case round =>
    obtain ⟨j, rfl, hj, HFj, HLj⟩ := hrel
    clear HF HM
    by_cases hlt : j < x.l.length
    · obtain ⟨eb, eo, hq, heb, e0, e1, e2, q2, c2, e3, hv2⟩ := list_elem (HV.out.below HLj.out.below) hlt
      have HV2 := Lib.hid hv2
      have f0 := HLj.out.enc.f.cell 0
      simp only [List.getElem?_toArray, List.getElem?_cons_zero, List.getElem?_cons_succ] at f0
      have hfl := HLj.out.enc.f.lt
      have nf : ¬ fb = wr.heap.size := by omega
      have HY6 := Lib.hid (i64L_all HS6.out _ (List.getElem_mem hlt))
      have HNX := fun h => HFj.out.next hlt h
      have HFA := fun h => HFj.out.fails HK.out hlt h
      have TN := txL_next x.l j hlt
      have IN := itL_next x.l j hlt
      have EN := encL_next x.l j hlt
      have BL : Hid ((l ++ (42 :: lineB (Lib.decDigits x.l.length)) ++ encL (x.l.take j)).length + (T - x.s.size - txL (x.l.take j)) + 30 * (I - x.l.length - itL (x.l.take j)) + 30 ≤ 100000000) := Lib.hid (by
        have b1 := HFj.out.tx
        have b2 := HFj.out.it
        have b3 := encL_len (x.l.take j) (i64L_take HS6.out j) (by omega) (by omega)
        have b4 := dec_len x.l.length (by omega)
        have b5 : (x.l.take j).length = j := by rw [List.length_take]; omega
        rw [b5] at b3
        simp only [List.length_append, List.length_cons, lineB, List.length_nil]
        omega)
      generalize x.l[j] = y at e0 e1 e2 e3 hv2 HV2 HY6 HNX HFA TN IN EN
      have HNX' := Lib.hid HNX
      have HFA' := Lib.hid HFA
      have HTN := Lib.hid TN
      have HIN := Lib.hid IN
      have HEN := Lib.hid EN
      clear HNX HFA TN IN EN hv2
      subst hq
      have k0 : (0 : Int) ≤ (j : Int) := by omega
      have k1 : (j : Int) < (x.l.length : Int) := by omega
      have HA := Lib.hid (HLj.out.ext ((Ext.refl wr).alloc (.cells #[.int .i64 y.k, .int .i64 y.n, .string y.s, .slice q2 y.l.length c2] 25)))
      have HC := Lib.hid (HSUB.out _ _ _ _ y q2 c2 (D - 1) HA.out.enc (by omega) (by omega) BL.out (HV2.out.ext ((Ext.refl wr).alloc _)) HY6.out)
      go_wp2_with fail
      refine HC.out.mono ?_
      intro e w7 hs7
      obtain ⟨hb7, hk7, hif⟩ := hs7
      cases hok : layOk d y (T - x.s.size - txL (x.l.take j)) (I - x.l.length - itL (x.l.take j)) with
      | false =>
        rw [if_neg (by rw [hok]; decide)] at hif
        have hno := HFA'.out hok
        obtain rfl := hif
        have H7b := Lib.hid (HA.out.below.trans hb7)
        have H7k := Lib.hid (HA.out.keep.trans hk7)
        have HNO := Lib.hid hno
        clear hok hno hb7 hk7
        go_wp2_with fail
        exact ⟨rfl, LayE.no HNO.out H7b.out H7k.out rfl⟩
      | true =>
        rw [if_pos hok] at hif
        obtain ⟨rfl, henc⟩ := hif
        have HF2 := Lib.hid (HNX'.out hok)
        have HL2 : Hid (LayAt w w7 B tb ib bb fb (T - x.s.size - txL (x.l.take (j + 1))) (I - x.l.length - itL (x.l.take (j + 1))) (l ++ (42 :: lineB (Lib.decDigits x.l.length)) ++ encL (x.l.take (j + 1))) x (.slice (some ⟨eb, eo, none⟩) x.l.length c) (.int .i64 0) (.string ⟨#[]⟩) (.slice none 0 0)) := Lib.hid (by
          rw [HTN.out, HIN.out, HEN.out, ← List.append_assoc, ← Nat.sub_sub, ← Nat.sub_sub]
          exact HA.out.sub hb7 hk7 henc)
        clear hok henc hb7 hk7 HA HC HLj HFj HNX' HFA' HTN HIN HEN BL
        go_wp2_with fail
        go_roundw
        case rel => exact ⟨j + 1, by go_num, by omega, HF2, HL2⟩
        case measure => simp [intOf]; omega
    · obtain rfl : j = x.l.length := by omega
      have HL8 : Hid (LayAt w wr B tb ib bb fb (T - x.s.size - txL x.l) (I - x.l.length - itL x.l) (l ++ (42 :: lineB (Lib.decDigits x.l.length)) ++ encL x.l) x (.slice q x.l.length c) (.int .i64 0) (.string ⟨#[]⟩) (.slice none 0 0)) := Lib.hid (by
        have := HLj.out
        rwa [List.take_length] at this)
      have x0 := HL8.out.box.cell 0
      have x1 := HL8.out.box.cell 1
      have x2 := HL8.out.box.cell 2
      have x3 := HL8.out.box.cell 3
      have y0 := HL8.out.bare.cell 0
      have y1 := HL8.out.bare.cell 1
      have y2 := HL8.out.bare.cell 2
      have y3 := HL8.out.bare.cell 3
      have v0 := HL8.out.bare.frozen 0
      have v1 := HL8.out.bare.frozen 1
      have v2 := HL8.out.bare.frozen 2
      have v3 := HL8.out.bare.frozen 3
      simp only [List.getElem?_toArray, List.getElem?_cons_zero, List.getElem?_cons_succ] at x0 x1 x2 x3 y0 y1 y2 y3
      rw [HK.out] at x0 y0
      have hB := Nat.le_trans H.out.base (Nat.le_refl _)
      have HL9 := Lib.hid (HL8.out.put 3 (.slice q x.l.length c) (c1 := .int .i64 0) (c2 := .string ⟨#[]⟩) (c3 := .slice q x.l.length c) (by rfl) hB)
      clear HLj
      have EE : Hid (EncAt (wr.setCell ⟨w.heap.size + 1, 3, none⟩ (.slice q x.l.length c)) B tb ib bb fb (T - txR x) (I - itR x) (l ++ encR x)) := Lib.hid (by
        have h9 := HL9.out.enc
        rw [Nat.sub_sub, Nat.sub_sub, ← tx_split, ← it_split, List.append_assoc] at h9
        rw [enc5 HK.out]
        exact h9)
      go_wp2_with fail
      all_goals
        first
        | ((with_reducible refine (must_no _ _).mono ?_)
           rintro e w' ⟨rfl, rfl⟩
           go_wp2_with fail
           exact ⟨rfl, LayE.no (lay_unfine (no5 HK.out (by first | exact .inl (by assumption) | exact .inr (by assumption)))) HL9.out.below HL9.out.keep rfl⟩)
        | ((with_reducible refine (must_yes _ _).mono ?_)
           rintro e w' ⟨rfl, rfl⟩
           go_wp2_with fail
           refine bodyPost_ret (results_none rfl _ _ _) rfl ?_
           exact LayE.yes (HFj.out.all HK.out (by assumption) (by assumption)) HL9.out.below HL9.out.keep rfl EE.out)
end Go.Proofs.YtlfihdcgbhdajaaGreatDoor
