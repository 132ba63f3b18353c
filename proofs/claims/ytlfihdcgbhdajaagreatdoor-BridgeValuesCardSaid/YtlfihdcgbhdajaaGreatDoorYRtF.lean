/- A reply that is laid: kinds 0. A reply that is laid: kinds 3. A reply that is laid: kinds 4. A reply that is laid: kinds others, a list too deep. -/
import Derived.Test.YtlfihdcgbhdajaaGreatDoorYA5
import Derived.Deep.RegionHeld3
namespace Go.Proofs.YtlfihdcgbhdajaaGreatDoor
open Go.RowKit
set_option linter.unusedVariables false
set_option linter.unusedSimpArgs false

set_option maxRecDepth 100000 in
set_option maxHeartbeats 2000000 in
theorem lay_k0 (w : World) {B tb ib bb fb T I : Nat} {l : List UInt8} (d : Nat) (x : Rep) (q : Option Addr) (c : Nat) (h : EncAt w B tb ib bb fb T I l) (hT : T ≤ 1048576) (hI : I ≤ 65536) (hs : x.s.size ≤ T) (hn : x.l.length ≤ I) (hL : l.length + T + 30 * I + 30 ≤ 100000000) (hk : x.k = 0)  :
    Calls Tryz.prog 75 #[.agg #[.int .i64 x.k, .int .i64 x.n, .string x.s, .slice q x.l.length c], .int .i64 (d : Int), .pointer (some ⟨tb, 0, none⟩), .pointer (some ⟨ib, 0, none⟩), .pointer (some ⟨bb, 0, none⟩), .pointer (some ⟨fb, 0, none⟩)] w (LayE w B tb ib bb fb T I l d x) := by
  have ct := h.t.cell 0
  have ci := h.i.cell 0
  have zt := h.t.frozen 0
  have zi := h.i.frozen 0
  simp only [List.getElem?_toArray, List.getElem?_cons_zero, List.getElem?_cons_succ] at ct ci
  have lt := h.t.lt
  have li := h.i.lt
  have nt : ¬ tb = w.heap.size := by omega
  have nt1 : ¬ tb = w.heap.size + 1 := by omega
  have ni : ¬ ib = w.heap.size := by omega
  have ni1 : ¬ ib = w.heap.size + 1 := by omega
  have nti : ¬ tb = ib := h.hb.2.2.2.2
  have nit : ¬ ib = tb := fun e => h.hb.2.2.2.2 e.symm
  have H := Lib.hid h
  have hw1 : IntKind.i64.wrap ((T : Int) - (x.s.size : Int)) = (T : Int) - (x.s.size : Int) := IntWalk.i64_in _ (by omega)
  have hm1 : min (x.s.size : Int) 1048577 = (x.s.size : Int) := by omega
  have hw2 : IntKind.i64.wrap ((I : Int) - (x.l.length : Int)) = (I : Int) - (x.l.length : Int) := IntWalk.i64_in _ (by omega)
  have hm2 : min (x.l.length : Int) 65537 = (x.l.length : Int) := by omega
  have hc1 : decide ((0 : Int) ≤ (T : Int) - (x.s.size : Int)) = true := decide_eq_true (by omega)
  have hc2 : decide ((x.s.size : Int) ≤ (T : Int)) = true := decide_eq_true (by omega)
  have hc3 : decide (x.s.size ≤ T) = true := decide_eq_true (by omega)
  have hd1 : decide ((0 : Int) ≤ (I : Int) - (x.l.length : Int)) = true := decide_eq_true (by omega)
  have hd2 : decide ((x.l.length : Int) ≤ (I : Int)) = true := decide_eq_true (by omega)
  have hd3 : decide (x.l.length ≤ I) = true := decide_eq_true (by omega)
  have HT : Hid (((T - x.s.size : Nat) : Int) = (T : Int) - (x.s.size : Int)) := Lib.hid (by omega)
  have HI : Hid (((I - x.l.length : Nat) : Int) = (I : Int) - (x.l.length : Int)) := Lib.hid (by omega)
  have HK := Lib.hid hk
  clear h hk
  go_enter Tryz.func75, Tryz.ntmps75
  go_wp2_with fail
  refine (must_yes _ _).mono ?_
  rintro e w' ⟨rfl, rfl⟩
  have L := lay_start w x (.slice q x.l.length c) (T' := T - x.s.size) (I' := I - x.l.length) H.out
  rw [HT.out, HI.out] at L
  generalize (((w.setCell ⟨tb, 0, none⟩ (.int .i64 ((T : Int) - (x.s.size : Int)))).setCell ⟨ib, 0, none⟩ (.int .i64 ((I : Int) - (x.l.length : Int)))).alloc (.cells #[.int .i64 x.k, .int .i64 x.n, .string x.s, .slice q x.l.length c] 25)).alloc (.cells #[.int .i64 x.k, .int .i64 0, .string ⟨#[]⟩, .slice none 0 0] 25) = w4 at L ⊢
  have HL4 := Lib.hid L
  have x0 := HL4.out.box.cell 0
  have x1 := HL4.out.box.cell 1
  have x2 := HL4.out.box.cell 2
  have x3 := HL4.out.box.cell 3
  have y0 := HL4.out.bare.cell 0
  have y1 := HL4.out.bare.cell 1
  have y2 := HL4.out.bare.cell 2
  have y3 := HL4.out.bare.cell 3
  have v0 := HL4.out.bare.frozen 0
  have v1 := HL4.out.bare.frozen 1
  have v2 := HL4.out.bare.frozen 2
  have v3 := HL4.out.bare.frozen 3
  simp only [List.getElem?_toArray, List.getElem?_cons_zero, List.getElem?_cons_succ] at x0 x1 x2 x3 y0 y1 y2 y3
  rw [HK.out] at x0 y0
  clear L ct ci zt zi nt nt1 ni ni1 nti nit hw1 hm1 hw2 hm2 hc1 hc2 hc3 hd1 hd2 hd3
  go_wp2_with fail
  refine (hwrite B bb l ⟨#[36, 45, 49, 13, 10]⟩ w4 HL4.out.enc.bld (by have e : (⟨#[36, 45, 49, 13, 10]⟩ : ByteArray).size = 5 := rfl; omega) HL4.out.enc.base).mono ?_
  rintro e w5 ⟨rfl, h9, b9, k9⟩
  have HL5 := Lib.hid (HL4.out.write h9 b9 k9)
  clear h9 b9 k9
  clear x0 x1 x2 x3 y0 y1 y2 y3 v0 v1 v2 v3
  have x0 := HL5.out.box.cell 0
  have x1 := HL5.out.box.cell 1
  have x2 := HL5.out.box.cell 2
  have x3 := HL5.out.box.cell 3
  have y0 := HL5.out.bare.cell 0
  have y1 := HL5.out.bare.cell 1
  have y2 := HL5.out.bare.cell 2
  have y3 := HL5.out.bare.cell 3
  have v0 := HL5.out.bare.frozen 0
  have v1 := HL5.out.bare.frozen 1
  have v2 := HL5.out.bare.frozen 2
  have v3 := HL5.out.bare.frozen 3
  simp only [List.getElem?_toArray, List.getElem?_cons_zero, List.getElem?_cons_succ] at x0 x1 x2 x3 y0 y1 y2 y3
  rw [HK.out] at x0 y0
  go_wp2_with fail
  all_goals
    first
    | ((with_reducible refine (must_no _ _).mono ?_)
       rintro e w' ⟨rfl, rfl⟩
       go_wp2_with fail
       exact ⟨rfl, LayE.no (lay_unfine (no0 HK.out (by first | exact .inl (by assumption) | exact .inr (.inl (by assumption)) | exact .inr (.inr ⟨by assumption, hb⟩)))) HL5.out.below HL5.out.keep rfl⟩)
    | (cases hb : (x.n == (x.l.length : Int)) with
       | false =>
         refine (must_no _ _).mono ?_
         rintro e w' ⟨rfl, rfl⟩
         go_wp2_with fail
         exact ⟨rfl, LayE.no (lay_unfine (no0 HK.out (by first | exact .inl (by assumption) | exact .inr (.inl (by assumption)) | exact .inr (.inr ⟨by assumption, hb⟩)))) HL5.out.below HL5.out.keep rfl⟩
       | true =>
         refine (must_yes _ _).mono ?_
         rintro e w' ⟨rfl, rfl⟩
         go_wp2_with fail
         refine bodyPost_ret (results_none rfl _ _ _) rfl ?_
         exact lay_done HL5.out (yes0 HK.out (by assumption) (by assumption) hb) (len_of (by assumption) hb) hs rfl (by rw [enc0 HK.out]))
end Go.Proofs.YtlfihdcgbhdajaaGreatDoor
namespace Go.Proofs.YtlfihdcgbhdajaaGreatDoor
open Go.RowKit
set_option linter.unusedVariables false
set_option linter.unusedSimpArgs false
def fmtS (n : Int) : ByteArray := ⟨(Lib.itoa n).toArray⟩
theorem fmtS_len (n : Int) (h0 : -9223372036854775808 ≤ n) (h1 : n ≤ 9223372036854775807) : (fmtS n).size ≤ 21 := by
 have := Lib.itoa_length_le n h0 h1
 show (Lib.itoa n).toArray.size ≤ 21
 simpa using this
theorem fmtS_list (n : Int) : (fmtS n).data.toList = Lib.itoa n := by simp [fmtS]
theorem fmt_any (n : Int) (w : World) (ht : Pow w) (h0 : -9223372036854775808 ≤ n) (h1 : n ≤ 9223372036854775807) :
  Calls Tryz.prog 79 #[.int .i64 n, .int .i64 10] w fun e w' => e = .returned (.string (fmtS n)) ∧ Ext w w' := by
 refine (Tryz.strconv_FormatInt_10 n h0 h1 w ht).mono ?_
 rintro e w' ⟨rfl, k, os, rfl⟩
 exact ⟨rfl, (Ext.refl w).grow k os⟩
set_option maxRecDepth 100000 in
set_option maxHeartbeats 2000000 in
theorem lay_k3 (w : World) {B tb ib bb fb T I : Nat} {l : List UInt8} (d : Nat) (x : Rep) (q : Option Addr) (c : Nat) (h : EncAt w B tb ib bb fb T I l) (hT : T ≤ 1048576) (hI : I ≤ 65536) (hs : x.s.size ≤ T) (hn : x.l.length ≤ I) (hL : l.length + T + 30 * I + 30 ≤ 100000000) (hk : x.k = 3) (h1 : -9223372036854775808 ≤ x.n ∧ x.n ≤ 9223372036854775807) :
    Calls Tryz.prog 75 #[.agg #[.int .i64 x.k, .int .i64 x.n, .string x.s, .slice q x.l.length c], .int .i64 (d : Int), .pointer (some ⟨tb, 0, none⟩), .pointer (some ⟨ib, 0, none⟩), .pointer (some ⟨bb, 0, none⟩), .pointer (some ⟨fb, 0, none⟩)] w (LayE w B tb ib bb fb T I l d x) := by
  have ct := h.t.cell 0
  have ci := h.i.cell 0
  have zt := h.t.frozen 0
  have zi := h.i.frozen 0
  simp only [List.getElem?_toArray, List.getElem?_cons_zero, List.getElem?_cons_succ] at ct ci
  have lt := h.t.lt
  have li := h.i.lt
  have nt : ¬ tb = w.heap.size := by omega
  have nt1 : ¬ tb = w.heap.size + 1 := by omega
  have ni : ¬ ib = w.heap.size := by omega
  have ni1 : ¬ ib = w.heap.size + 1 := by omega
  have nti : ¬ tb = ib := h.hb.2.2.2.2
  have nit : ¬ ib = tb := fun e => h.hb.2.2.2.2 e.symm
  have H := Lib.hid h
  have H1 := Lib.hid h1
  have hw1 : IntKind.i64.wrap ((T : Int) - (x.s.size : Int)) = (T : Int) - (x.s.size : Int) := IntWalk.i64_in _ (by omega)
  have hm1 : min (x.s.size : Int) 1048577 = (x.s.size : Int) := by omega
  have hw2 : IntKind.i64.wrap ((I : Int) - (x.l.length : Int)) = (I : Int) - (x.l.length : Int) := IntWalk.i64_in _ (by omega)
  have hm2 : min (x.l.length : Int) 65537 = (x.l.length : Int) := by omega
  have hc1 : decide ((0 : Int) ≤ (T : Int) - (x.s.size : Int)) = true := decide_eq_true (by omega)
  have hc2 : decide ((x.s.size : Int) ≤ (T : Int)) = true := decide_eq_true (by omega)
  have hc3 : decide (x.s.size ≤ T) = true := decide_eq_true (by omega)
  have hd1 : decide ((0 : Int) ≤ (I : Int) - (x.l.length : Int)) = true := decide_eq_true (by omega)
  have hd2 : decide ((x.l.length : Int) ≤ (I : Int)) = true := decide_eq_true (by omega)
  have hd3 : decide (x.l.length ≤ I) = true := decide_eq_true (by omega)
  have HT : Hid (((T - x.s.size : Nat) : Int) = (T : Int) - (x.s.size : Int)) := Lib.hid (by omega)
  have HI : Hid (((I - x.l.length : Nat) : Int) = (I : Int) - (x.l.length : Int)) := Lib.hid (by omega)
  have HK := Lib.hid hk
  clear h hk
  clear h1
  go_enter Tryz.func75, Tryz.ntmps75
  go_wp2_with fail
  refine (must_yes _ _).mono ?_
  rintro e w' ⟨rfl, rfl⟩
  have L := lay_start w x (.slice q x.l.length c) (T' := T - x.s.size) (I' := I - x.l.length) H.out
  rw [HT.out, HI.out] at L
  generalize (((w.setCell ⟨tb, 0, none⟩ (.int .i64 ((T : Int) - (x.s.size : Int)))).setCell ⟨ib, 0, none⟩ (.int .i64 ((I : Int) - (x.l.length : Int)))).alloc (.cells #[.int .i64 x.k, .int .i64 x.n, .string x.s, .slice q x.l.length c] 25)).alloc (.cells #[.int .i64 x.k, .int .i64 0, .string ⟨#[]⟩, .slice none 0 0] 25) = w4 at L ⊢
  have HL4 := Lib.hid L
  have x0 := HL4.out.box.cell 0
  have x1 := HL4.out.box.cell 1
  have x2 := HL4.out.box.cell 2
  have x3 := HL4.out.box.cell 3
  have y0 := HL4.out.bare.cell 0
  have y1 := HL4.out.bare.cell 1
  have y2 := HL4.out.bare.cell 2
  have y3 := HL4.out.bare.cell 3
  have v0 := HL4.out.bare.frozen 0
  have v1 := HL4.out.bare.frozen 1
  have v2 := HL4.out.bare.frozen 2
  have v3 := HL4.out.bare.frozen 3
  simp only [List.getElem?_toArray, List.getElem?_cons_zero, List.getElem?_cons_succ] at x0 x1 x2 x3 y0 y1 y2 y3
  rw [HK.out] at x0 y0
  clear L ct ci zt zi nt nt1 ni ni1 nti nit hw1 hm1 hw2 hm2 hc1 hc2 hc3 hd1 hd2 hd3
  go_wp2_with fail
  refine (fmt_any x.n w4 HL4.out.enc.pow.1 H1.out.1 H1.out.2).mono ?_
  rintro e w5 ⟨rfl, e5⟩
  have HL5 := Lib.hid (HL4.out.ext e5)
  clear e5
  clear x0 x1 x2 x3 y0 y1 y2 y3 v0 v1 v2 v3
  have x0 := HL5.out.box.cell 0
  have x1 := HL5.out.box.cell 1
  have x2 := HL5.out.box.cell 2
  have x3 := HL5.out.box.cell 3
  have y0 := HL5.out.bare.cell 0
  have y1 := HL5.out.bare.cell 1
  have y2 := HL5.out.bare.cell 2
  have y3 := HL5.out.bare.cell 3
  have v0 := HL5.out.bare.frozen 0
  have v1 := HL5.out.bare.frozen 1
  have v2 := HL5.out.bare.frozen 2
  have v3 := HL5.out.bare.frozen 3
  simp only [List.getElem?_toArray, List.getElem?_cons_zero, List.getElem?_cons_succ] at x0 x1 x2 x3 y0 y1 y2 y3
  rw [HK.out] at x0 y0
  have hz := fmtS_len x.n H1.out.1 H1.out.2
  have HD := Lib.hid (fmtS_list x.n)
  generalize fmtS x.n = ds at hz HD ⊢
  have a1 : ¬ 9223372036854775807 < 1 + ds.size := by omega
  have a2 : ¬ 9223372036854775807 < 1 + ds.size + 2 := by omega
  go_wp2_with fail
  refine (hwrite B bb l _ w5 HL5.out.enc.bld (by rw [app_size, app_size]; show l.length + (1 + ds.size + 2) ≤ _; omega) HL5.out.enc.base).mono ?_
  rintro e w6 ⟨rfl, h9, b9, k9⟩
  have HL6 := Lib.hid (HL5.out.write h9 b9 k9)
  clear h9 b9 k9
  clear x0 x1 x2 x3 y0 y1 y2 y3 v0 v1 v2 v3
  have x0 := HL6.out.box.cell 0
  have x1 := HL6.out.box.cell 1
  have x2 := HL6.out.box.cell 2
  have x3 := HL6.out.box.cell 3
  have y0 := HL6.out.bare.cell 0
  have y1 := HL6.out.bare.cell 1
  have y2 := HL6.out.bare.cell 2
  have y3 := HL6.out.bare.cell 3
  have v0 := HL6.out.bare.frozen 0
  have v1 := HL6.out.bare.frozen 1
  have v2 := HL6.out.bare.frozen 2
  have v3 := HL6.out.bare.frozen 3
  simp only [List.getElem?_toArray, List.getElem?_cons_zero, List.getElem?_cons_succ] at x0 x1 x2 x3 y0 y1 y2 y3
  rw [HK.out] at x0 y0
  have hB := Nat.le_trans H.out.base (Nat.le_refl _)
  clear a1 a2
  have HL7 := Lib.hid (HL6.out.put 1 (.int .i64 x.n) (c1 := .int .i64 x.n) (c2 := .string ⟨#[]⟩) (c3 := .slice none 0 0) (by rfl) hB)
  go_wp2_with fail
  all_goals
    first
    | ((with_reducible refine (must_no _ _).mono ?_)
       rintro e w' ⟨rfl, rfl⟩
       go_wp2_with fail
       exact ⟨rfl, LayE.no (lay_unfine (no3 HK.out (by first | exact .inl (by assumption) | exact .inr hb))) HL7.out.below HL7.out.keep rfl⟩)
    | (cases hb : ((0 : Int) == (x.l.length : Int)) with
       | false =>
         refine (must_no _ _).mono ?_
         rintro e w' ⟨rfl, rfl⟩
         go_wp2_with fail
         exact ⟨rfl, LayE.no (lay_unfine (no3 HK.out (by first | exact .inl (by assumption) | exact .inr hb))) HL7.out.below HL7.out.keep rfl⟩
       | true =>
         refine (must_yes _ _).mono ?_
         rintro e w' ⟨rfl, rfl⟩
         go_wp2_with fail
         refine bodyPost_ret (results_none rfl _ _ _) rfl ?_
         exact lay_done HL7.out (yes3 HK.out (by assumption) hb) (len0_of hb) hs rfl (by rw [enc3 HK.out, app_list, app_list, HD.out]; simp [lineB]))
end Go.Proofs.YtlfihdcgbhdajaaGreatDoor
namespace Go.Proofs.YtlfihdcgbhdajaaGreatDoor
open Go.RowKit
set_option linter.unusedVariables false
set_option linter.unusedSimpArgs false
set_option maxRecDepth 100000 in
set_option maxHeartbeats 2000000 in
theorem lay_k4 (w : World) {B tb ib bb fb T I : Nat} {l : List UInt8} (d : Nat) (x : Rep) (q : Option Addr) (c : Nat) (h : EncAt w B tb ib bb fb T I l) (hT : T ≤ 1048576) (hI : I ≤ 65536) (hs : x.s.size ≤ T) (hn : x.l.length ≤ I) (hL : l.length + T + 30 * I + 30 ≤ 100000000) (hk : x.k = 4)  :
    Calls Tryz.prog 75 #[.agg #[.int .i64 x.k, .int .i64 x.n, .string x.s, .slice q x.l.length c], .int .i64 (d : Int), .pointer (some ⟨tb, 0, none⟩), .pointer (some ⟨ib, 0, none⟩), .pointer (some ⟨bb, 0, none⟩), .pointer (some ⟨fb, 0, none⟩)] w (LayE w B tb ib bb fb T I l d x) := by
  have ct := h.t.cell 0
  have ci := h.i.cell 0
  have zt := h.t.frozen 0
  have zi := h.i.frozen 0
  simp only [List.getElem?_toArray, List.getElem?_cons_zero, List.getElem?_cons_succ] at ct ci
  have lt := h.t.lt
  have li := h.i.lt
  have nt : ¬ tb = w.heap.size := by omega
  have nt1 : ¬ tb = w.heap.size + 1 := by omega
  have ni : ¬ ib = w.heap.size := by omega
  have ni1 : ¬ ib = w.heap.size + 1 := by omega
  have nti : ¬ tb = ib := h.hb.2.2.2.2
  have nit : ¬ ib = tb := fun e => h.hb.2.2.2.2 e.symm
  have H := Lib.hid h
  have hw1 : IntKind.i64.wrap ((T : Int) - (x.s.size : Int)) = (T : Int) - (x.s.size : Int) := IntWalk.i64_in _ (by omega)
  have hm1 : min (x.s.size : Int) 1048577 = (x.s.size : Int) := by omega
  have hw2 : IntKind.i64.wrap ((I : Int) - (x.l.length : Int)) = (I : Int) - (x.l.length : Int) := IntWalk.i64_in _ (by omega)
  have hm2 : min (x.l.length : Int) 65537 = (x.l.length : Int) := by omega
  have hc1 : decide ((0 : Int) ≤ (T : Int) - (x.s.size : Int)) = true := decide_eq_true (by omega)
  have hc2 : decide ((x.s.size : Int) ≤ (T : Int)) = true := decide_eq_true (by omega)
  have hc3 : decide (x.s.size ≤ T) = true := decide_eq_true (by omega)
  have hd1 : decide ((0 : Int) ≤ (I : Int) - (x.l.length : Int)) = true := decide_eq_true (by omega)
  have hd2 : decide ((x.l.length : Int) ≤ (I : Int)) = true := decide_eq_true (by omega)
  have hd3 : decide (x.l.length ≤ I) = true := decide_eq_true (by omega)
  have HT : Hid (((T - x.s.size : Nat) : Int) = (T : Int) - (x.s.size : Int)) := Lib.hid (by omega)
  have HI : Hid (((I - x.l.length : Nat) : Int) = (I : Int) - (x.l.length : Int)) := Lib.hid (by omega)
  have HK := Lib.hid hk
  clear h hk
  go_enter Tryz.func75, Tryz.ntmps75
  go_wp2_with fail
  refine (must_yes _ _).mono ?_
  rintro e w' ⟨rfl, rfl⟩
  have L := lay_start w x (.slice q x.l.length c) (T' := T - x.s.size) (I' := I - x.l.length) H.out
  rw [HT.out, HI.out] at L
  generalize (((w.setCell ⟨tb, 0, none⟩ (.int .i64 ((T : Int) - (x.s.size : Int)))).setCell ⟨ib, 0, none⟩ (.int .i64 ((I : Int) - (x.l.length : Int)))).alloc (.cells #[.int .i64 x.k, .int .i64 x.n, .string x.s, .slice q x.l.length c] 25)).alloc (.cells #[.int .i64 x.k, .int .i64 0, .string ⟨#[]⟩, .slice none 0 0] 25) = w4 at L ⊢
  have HL4 := Lib.hid L
  have x0 := HL4.out.box.cell 0
  have x1 := HL4.out.box.cell 1
  have x2 := HL4.out.box.cell 2
  have x3 := HL4.out.box.cell 3
  have y0 := HL4.out.bare.cell 0
  have y1 := HL4.out.bare.cell 1
  have y2 := HL4.out.bare.cell 2
  have y3 := HL4.out.bare.cell 3
  have v0 := HL4.out.bare.frozen 0
  have v1 := HL4.out.bare.frozen 1
  have v2 := HL4.out.bare.frozen 2
  have v3 := HL4.out.bare.frozen 3
  simp only [List.getElem?_toArray, List.getElem?_cons_zero, List.getElem?_cons_succ] at x0 x1 x2 x3 y0 y1 y2 y3
  rw [HK.out] at x0 y0
  clear L ct ci zt zi nt nt1 ni ni1 nti nit hw1 hm1 hw2 hm2 hc1 hc2 hc3 hd1 hd2 hd3
  go_wp2_with fail
  have hz := its_len x.s.size (by omega)
  have HD := Lib.hid (itS_size x.s.size)
  have a1 : ¬ 9223372036854775807 < 1 + (itS (x.s.size : Int)).size := by omega
  have a2 : ¬ 9223372036854775807 < 1 + (itS (x.s.size : Int)).size + 2 := by omega
  have a3 : ¬ 9223372036854775807 < 1 + (itS (x.s.size : Int)).size + 2 + x.s.size := by omega
  have a4 : ¬ 9223372036854775807 < 1 + (itS (x.s.size : Int)).size + 2 + x.s.size + 2 := by omega
  go_region_held3 (fun w' => w'.cell? ⟨w.heap.size, 2, none⟩ = some (.string x.s)) (go_keep)
    (first
      | (go_at_call 80; refine (itoa_any (x.s.size : Int) _ (HL4.out.ext (Ext.refl w4).drew).enc.pow.1 (by omega) (by omega)).mono ?_; rintro e w5 ⟨rfl, e5⟩; have HL5 := Lib.hid ((HL4.out.ext (Ext.refl w4).drew).ext e5); have x5 : w5.cell? ⟨w.heap.size, 2, none⟩ = some (.string x.s) := HL5.out.box.cell 2; clear e5)
      | (go_at_call 77; refine (hwrite B bb l _ w5 HL5.out.enc.bld (by rw [app_size, app_size, app_size, app_size]; show l.length + (1 + (itS (x.s.size : Int)).size + 2 + x.s.size + 2) ≤ _; omega) HL5.out.enc.base).mono ?_; rintro e w6 ⟨rfl, h9, b9, k9⟩; have HL6 := Lib.hid (HL5.out.write h9 b9 k9); have x6 : w6.cell? ⟨w.heap.size, 2, none⟩ = some (.string x.s) := HL6.out.box.cell 2; clear h9 b9 k9))
  clear x5 x6 a1 a2 a3 a4 hz
  clear x0 x1 x2 x3 y0 y1 y2 y3 v0 v1 v2 v3
  have x0 := HL6.out.box.cell 0
  have x1 := HL6.out.box.cell 1
  have x2 := HL6.out.box.cell 2
  have x3 := HL6.out.box.cell 3
  have y0 := HL6.out.bare.cell 0
  have y1 := HL6.out.bare.cell 1
  have y2 := HL6.out.bare.cell 2
  have y3 := HL6.out.bare.cell 3
  have v0 := HL6.out.bare.frozen 0
  have v1 := HL6.out.bare.frozen 1
  have v2 := HL6.out.bare.frozen 2
  have v3 := HL6.out.bare.frozen 3
  simp only [List.getElem?_toArray, List.getElem?_cons_zero, List.getElem?_cons_succ] at x0 x1 x2 x3 y0 y1 y2 y3
  rw [HK.out] at x0 y0
  have hB := Nat.le_trans H.out.base (Nat.le_refl _)
  have HL7 := Lib.hid (HL6.out.put 2 (.string x.s) (c1 := .int .i64 0) (c2 := .string x.s) (c3 := .slice none 0 0) (by rfl) hB)
  go_wp2_with fail
  all_goals
    first
    | ((with_reducible refine (must_no _ _).mono ?_)
       rintro e w' ⟨rfl, rfl⟩
       go_wp2_with fail
       exact ⟨rfl, LayE.no (lay_unfine (no4 HK.out (by first | exact .inl (by assumption) | exact .inr ⟨by assumption, hb⟩))) HL7.out.below HL7.out.keep rfl⟩)
    | (cases hb : (x.n == (x.l.length : Int)) with
       | false =>
         refine (must_no _ _).mono ?_
         rintro e w' ⟨rfl, rfl⟩
         go_wp2_with fail
         exact ⟨rfl, LayE.no (lay_unfine (no4 HK.out (by first | exact .inl (by assumption) | exact .inr ⟨by assumption, hb⟩))) HL7.out.below HL7.out.keep rfl⟩
       | true =>
         refine (must_yes _ _).mono ?_
         rintro e w' ⟨rfl, rfl⟩
         go_wp2_with fail
         refine bodyPost_ret (results_none rfl _ _ _) rfl ?_
         exact lay_done HL7.out (yes4 HK.out (by assumption) hb) (len_of (by assumption) hb) hs rfl (by rw [enc4 HK.out, app_list, app_list, app_list, app_list, HD.out]; simp [textB, lineB]))
end Go.Proofs.YtlfihdcgbhdajaaGreatDoor
namespace Go.Proofs.YtlfihdcgbhdajaaGreatDoor
open Go.RowKit
set_option linter.unusedVariables false
set_option linter.unusedSimpArgs false
set_option maxRecDepth 100000 in
set_option maxHeartbeats 2000000 in
theorem lay_kX (w : World) {B tb ib bb fb T I : Nat} {l : List UInt8} (d : Nat) (x : Rep) (q : Option Addr) (c : Nat) (h : EncAt w B tb ib bb fb T I l) (hT : T ≤ 1048576) (hI : I ≤ 65536) (hs : x.s.size ≤ T) (hn : x.l.length ≤ I) (hL : l.length + T + 30 * I + 30 ≤ 100000000) (K0 : Int) (hk : x.k = K0) (h1 : ¬ x.k = 0 ∧ ¬ x.k = 1 ∧ ¬ x.k = 2 ∧ ¬ x.k = 3 ∧ ¬ x.k = 4 ∧ ¬ x.k = 5) :
  Calls Tryz.prog 75 #[.agg #[.int .i64 x.k, .int .i64 x.n, .string x.s, .slice q x.l.length c], .int .i64 (d : Int), .pointer (some ⟨tb, 0, none⟩), .pointer (some ⟨ib, 0, none⟩), .pointer (some ⟨bb, 0, none⟩), .pointer (some ⟨fb, 0, none⟩)] w (LayE w B tb ib bb fb T I l d x) := by
 have ct := h.t.cell 0
 have ci := h.i.cell 0
 have zt := h.t.frozen 0
 have zi := h.i.frozen 0
 simp only [List.getElem?_toArray, List.getElem?_cons_zero, List.getElem?_cons_succ] at ct ci
 have lt := h.t.lt
 have li := h.i.lt
 have nt : ¬ tb = w.heap.size := by omega
 have nt1 : ¬ tb = w.heap.size + 1 := by omega
 have ni : ¬ ib = w.heap.size := by omega
 have ni1 : ¬ ib = w.heap.size + 1 := by omega
 have nti : ¬ tb = ib := h.hb.2.2.2.2
 have nit : ¬ ib = tb := fun e => h.hb.2.2.2.2 e.symm
 have H := Lib.hid h
 have H1 := Lib.hid h1
 have hw1 : IntKind.i64.wrap ((T : Int) - (x.s.size : Int)) = (T : Int) - (x.s.size : Int) := IntWalk.i64_in _ (by omega)
 have hm1 : min (x.s.size : Int) 1048577 = (x.s.size : Int) := by omega
 have hw2 : IntKind.i64.wrap ((I : Int) - (x.l.length : Int)) = (I : Int) - (x.l.length : Int) := IntWalk.i64_in _ (by omega)
 have hm2 : min (x.l.length : Int) 65537 = (x.l.length : Int) := by omega
 have hc1 : decide ((0 : Int) ≤ (T : Int) - (x.s.size : Int)) = true := decide_eq_true (by omega)
 have hc2 : decide ((x.s.size : Int) ≤ (T : Int)) = true := decide_eq_true (by omega)
 have hc3 : decide (x.s.size ≤ T) = true := decide_eq_true (by omega)
 have hd1 : decide ((0 : Int) ≤ (I : Int) - (x.l.length : Int)) = true := decide_eq_true (by omega)
 have hd2 : decide ((x.l.length : Int) ≤ (I : Int)) = true := decide_eq_true (by omega)
 have hd3 : decide (x.l.length ≤ I) = true := decide_eq_true (by omega)
 have HT : Hid (((T - x.s.size : Nat) : Int) = (T : Int) - (x.s.size : Int)) := Lib.hid (by omega)
 have HI : Hid (((I - x.l.length : Nat) : Int) = (I : Int) - (x.l.length : Int)) := Lib.hid (by omega)
 have HK := Lib.hid hk
 have n0 : (K0 == 0) = false := by have := h1.1; simp; omega
 have n1 : (K0 == 1) = false := by have := h1.2.1; simp; omega
 have n2 : (K0 == 2) = false := by have := h1.2.2.1; simp; omega
 have n3 : (K0 == 3) = false := by have := h1.2.2.2.1; simp; omega
 have n4 : (K0 == 4) = false := by have := h1.2.2.2.2.1; simp; omega
 have n5 : (K0 == 5) = false := by have := h1.2.2.2.2.2; simp; omega
 clear h hk
 clear h1
 go_enter Tryz.func75, Tryz.ntmps75
 go_wp2_with fail
 refine (must_yes _ _).mono ?_
 rintro e w' ⟨rfl, rfl⟩
 have L := lay_start w x (.slice q x.l.length c) (T' := T - x.s.size) (I' := I - x.l.length) H.out
 rw [HT.out, HI.out] at L
 generalize (((w.setCell ⟨tb, 0, none⟩ (.int .i64 ((T : Int) - (x.s.size : Int)))).setCell ⟨ib, 0, none⟩ (.int .i64 ((I : Int) - (x.l.length : Int)))).alloc (.cells #[.int .i64 x.k, .int .i64 x.n, .string x.s, .slice q x.l.length c] 25)).alloc (.cells #[.int .i64 x.k, .int .i64 0, .string ⟨#[]⟩, .slice none 0 0] 25) = w4 at L ⊢
 have HL4 := Lib.hid L
 have x0 := HL4.out.box.cell 0
 have x1 := HL4.out.box.cell 1
 have x2 := HL4.out.box.cell 2
 have x3 := HL4.out.box.cell 3
 have y0 := HL4.out.bare.cell 0
 have y1 := HL4.out.bare.cell 1
 have y2 := HL4.out.bare.cell 2
 have y3 := HL4.out.bare.cell 3
 have v0 := HL4.out.bare.frozen 0
 have v1 := HL4.out.bare.frozen 1
 have v2 := HL4.out.bare.frozen 2
 have v3 := HL4.out.bare.frozen 3
 simp only [List.getElem?_toArray, List.getElem?_cons_zero, List.getElem?_cons_succ] at x0 x1 x2 x3 y0 y1 y2 y3
 rw [HK.out] at x0 y0
 clear L ct ci zt zi nt nt1 ni ni1 nti nit hw1 hm1 hw2 hm2 hc1 hc2 hc3 hd1 hd2 hd3
 go_wp2_with fail
 refine (must_no _ _).mono ?_
 rintro e w' ⟨rfl, rfl⟩
 go_wp2_with fail
 exact ⟨rfl, LayE.no (lay_unfine (fineX H1.out)) HL4.out.below HL4.out.keep rfl⟩
set_option maxRecDepth 100000 in
set_option maxHeartbeats 2000000 in
theorem lay_k50 (w : World) {B tb ib bb fb T I : Nat} {l : List UInt8} (d : Nat) (x : Rep) (q : Option Addr) (c : Nat) (h : EncAt w B tb ib bb fb T I l) (hT : T ≤ 1048576) (hI : I ≤ 65536) (hs : x.s.size ≤ T) (hn : x.l.length ≤ I) (hL : l.length + T + 30 * I + 30 ≤ 100000000) (hk : x.k = 5) (h1 : d = 0) :
  Calls Tryz.prog 75 #[.agg #[.int .i64 x.k, .int .i64 x.n, .string x.s, .slice q x.l.length c], .int .i64 (d : Int), .pointer (some ⟨tb, 0, none⟩), .pointer (some ⟨ib, 0, none⟩), .pointer (some ⟨bb, 0, none⟩), .pointer (some ⟨fb, 0, none⟩)] w (LayE w B tb ib bb fb T I l d x) := by
 have ct := h.t.cell 0
 have ci := h.i.cell 0
 have zt := h.t.frozen 0
 have zi := h.i.frozen 0
 simp only [List.getElem?_toArray, List.getElem?_cons_zero, List.getElem?_cons_succ] at ct ci
 have lt := h.t.lt
 have li := h.i.lt
 have nt : ¬ tb = w.heap.size := by omega
 have nt1 : ¬ tb = w.heap.size + 1 := by omega
 have ni : ¬ ib = w.heap.size := by omega
 have ni1 : ¬ ib = w.heap.size + 1 := by omega
 have nti : ¬ tb = ib := h.hb.2.2.2.2
 have nit : ¬ ib = tb := fun e => h.hb.2.2.2.2 e.symm
 have H := Lib.hid h
 have hw1 : IntKind.i64.wrap ((T : Int) - (x.s.size : Int)) = (T : Int) - (x.s.size : Int) := IntWalk.i64_in _ (by omega)
 have hm1 : min (x.s.size : Int) 1048577 = (x.s.size : Int) := by omega
 have hw2 : IntKind.i64.wrap ((I : Int) - (x.l.length : Int)) = (I : Int) - (x.l.length : Int) := IntWalk.i64_in _ (by omega)
 have hm2 : min (x.l.length : Int) 65537 = (x.l.length : Int) := by omega
 have hc1 : decide ((0 : Int) ≤ (T : Int) - (x.s.size : Int)) = true := decide_eq_true (by omega)
 have hc2 : decide ((x.s.size : Int) ≤ (T : Int)) = true := decide_eq_true (by omega)
 have hc3 : decide (x.s.size ≤ T) = true := decide_eq_true (by omega)
 have hd1 : decide ((0 : Int) ≤ (I : Int) - (x.l.length : Int)) = true := decide_eq_true (by omega)
 have hd2 : decide ((x.l.length : Int) ≤ (I : Int)) = true := decide_eq_true (by omega)
 have hd3 : decide (x.l.length ≤ I) = true := decide_eq_true (by omega)
 have HT : Hid (((T - x.s.size : Nat) : Int) = (T : Int) - (x.s.size : Int)) := Lib.hid (by omega)
 have HI : Hid (((I - x.l.length : Nat) : Int) = (I : Int) - (x.l.length : Int)) := Lib.hid (by omega)
 have HK := Lib.hid hk
 clear h hk
 subst h1
 go_enter Tryz.func75, Tryz.ntmps75
 go_wp2_with fail
 refine (must_yes _ _).mono ?_
 rintro e w' ⟨rfl, rfl⟩
 have L := lay_start w x (.slice q x.l.length c) (T' := T - x.s.size) (I' := I - x.l.length) H.out
 rw [HT.out, HI.out] at L
 generalize (((w.setCell ⟨tb, 0, none⟩ (.int .i64 ((T : Int) - (x.s.size : Int)))).setCell ⟨ib, 0, none⟩ (.int .i64 ((I : Int) - (x.l.length : Int)))).alloc (.cells #[.int .i64 x.k, .int .i64 x.n, .string x.s, .slice q x.l.length c] 25)).alloc (.cells #[.int .i64 x.k, .int .i64 0, .string ⟨#[]⟩, .slice none 0 0] 25) = w4 at L ⊢
 have HL4 := Lib.hid L
 have x0 := HL4.out.box.cell 0
 have x1 := HL4.out.box.cell 1
 have x2 := HL4.out.box.cell 2
 have x3 := HL4.out.box.cell 3
 have y0 := HL4.out.bare.cell 0
 have y1 := HL4.out.bare.cell 1
 have y2 := HL4.out.bare.cell 2
 have y3 := HL4.out.bare.cell 3
 have v0 := HL4.out.bare.frozen 0
 have v1 := HL4.out.bare.frozen 1
 have v2 := HL4.out.bare.frozen 2
 have v3 := HL4.out.bare.frozen 3
 simp only [List.getElem?_toArray, List.getElem?_cons_zero, List.getElem?_cons_succ] at x0 x1 x2 x3 y0 y1 y2 y3
 rw [HK.out] at x0 y0
 clear L ct ci zt zi nt nt1 ni ni1 nti nit hw1 hm1 hw2 hm2 hc1 hc2 hc3 hd1 hd2 hd3
 go_wp2_with fail
 refine (must_no _ _).mono ?_
 rintro e w' ⟨rfl, rfl⟩
 go_wp2_with fail
 exact ⟨rfl, LayE.no (lay_unfine (fine50 HK.out)) HL4.out.below HL4.out.keep rfl⟩
end Go.Proofs.YtlfihdcgbhdajaaGreatDoor
