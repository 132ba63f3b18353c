/- A reply that is laid: more than the bounds let by. -/
import Derived.Test.YtopdgmchkoaeeaaDoorRtD
namespace Go.Proofs.YtopdgmchkoaeeaaDoor
open Go.RowKit
set_option linter.unusedVariables false
set_option linter.unusedSimpArgs false

theorem lay_tx {d : Nat} {x : Rep} {T I : Nat} (h : T < x.s.size) : layOk d x T I = false := by
  obtain ⟨k, n, s, l⟩ := x
  have : T < s.size + txL l := Nat.lt_of_lt_of_le h (Nat.le_add_right _ _)
  have h2 : decide (txR (.mk k n s l) ≤ T) = false := by simp only [txR]; exact decide_eq_false (by omega)
  simp [layOk, h2]
theorem lay_it {d : Nat} {x : Rep} {T I : Nat} (h : I < x.l.length) : layOk d x T I = false := by
  obtain ⟨k, n, s, l⟩ := x
  have : I < l.length + itL l := Nat.lt_of_lt_of_le h (Nat.le_add_right _ _)
  have h2 : decide (itR (.mk k n s l) ≤ I) = false := by simp only [itR]; exact decide_eq_false (by omega)
  simp [layOk, h2]
theorem over_below {w : World} {B tb ib bb fb T I : Nat} {l : List UInt8} (h : EncAt w B tb ib bb fb T I l) (u v : Value) (o p : Obj) : Below B w ((((w.setCell ⟨tb, 0, none⟩ u).setCell ⟨ib, 0, none⟩ v).alloc o).alloc p) := by
  have b1 : Below B w ((w.setCell ⟨tb, 0, none⟩ u).setCell ⟨ib, 0, none⟩ v) := ((Below.refl B w).setCell (p := ⟨tb, 0, none⟩) h.hb.1 _).setCell (p := ⟨ib, 0, none⟩) h.hb.2.1 _
  have hb : B ≤ ((w.setCell ⟨tb, 0, none⟩ u).setCell ⟨ib, 0, none⟩ v).heap.size := by rw [World.size_setCell, World.size_setCell]; exact h.base
  exact (b1.alloc hb o).alloc (by rw [size_alloc]; omega) p
theorem over_keep {w : World} {B tb ib bb fb T I : Nat} {l : List UInt8} (h : EncAt w B tb ib bb fb T I l) (u v : Value) (o p : Obj) : KeepL w ((((w.setCell ⟨tb, 0, none⟩ u).setCell ⟨ib, 0, none⟩ v).alloc o).alloc p) := by
  have i1 : Blk (w.setCell ⟨tb, 0, none⟩ u) ib 3 #[.int .i64 (I : Int)] := h.i.far (by show ib ≠ tb; exact h.hb.2.2.2.2.symm) _
  exact (((KeepL.refl w).set h.t 0 u).set i1 0 v).trans (KeepL.ext (((Ext.refl _).alloc o).alloc p))
set_option maxRecDepth 100000 in
set_option maxHeartbeats 2000000 in
theorem lay_tss (w : World) {B tb ib bb fb T I : Nat} {l : List UInt8} (d : Nat) (x : Rep) (q : Option Addr) (c : Nat) (h : EncAt w B tb ib bb fb T I l) (hT : T ≤ 1048576) (hI : I ≤ 65536) (hs : T < x.s.size) (hb : x.s.size < 1048577) (hn : x.l.length < 65537) :
    Calls Tryd.prog 54 #[.agg #[.int .i64 x.k, .int .i64 x.n, .string x.s, .slice q x.l.length c], .int .i64 (d : Int), .pointer (some ⟨tb, 0, none⟩), .pointer (some ⟨ib, 0, none⟩), .pointer (some ⟨bb, 0, none⟩), .pointer (some ⟨fb, 0, none⟩)] w (LayE w B tb ib bb fb T I l d x) := by
  have ct := h.t.cell 0
  have ci := h.i.cell 0
  have zt := h.t.frozen 0
  have zi := h.i.frozen 0
  simp only [List.getElem?_toArray, List.getElem?_cons_zero, List.getElem?_cons_succ] at ct ci
  have lt := h.t.lt
  have li := h.i.lt
  have nt : ¬ tb = w.heap.size := by omega
  have nt1 : ¬ tb = w.heap.size + 1 := by omega
  have ni : ¬ ib = w.heap.size := by omega
  have ni1 : ¬ ib = w.heap.size + 1 := by omega
  have nti : ¬ tb = ib := h.hb.2.2.2.2
  have nit : ¬ ib = tb := fun e => h.hb.2.2.2.2 e.symm
  have H := Lib.hid h
  have hm1 : min (x.s.size : Int) 1048577 = (x.s.size : Int) := by omega
  have hw1 : IntKind.i64.wrap ((T : Int) - (x.s.size : Int)) = (T : Int) - (x.s.size : Int) := IntWalk.i64_in _ (by omega)
  have hm2 : min (x.l.length : Int) 65537 = (x.l.length : Int) := by omega
  have hw2 : IntKind.i64.wrap ((I : Int) - (x.l.length : Int)) = (I : Int) - (x.l.length : Int) := IntWalk.i64_in _ (by omega)
  have ht : decide ((0 : Int) ≤ (T : Int) - (x.s.size : Int)) = false := by simp; omega
  clear h hb hn
  go_enter Tryd.func54, Tryd.ntmps54
  go_wp2_with fail
  refine (must_no _ _).mono ?_
  rintro e w' ⟨rfl, rfl⟩
  go_wp2_with fail
  exact ⟨rfl, LayE.no (lay_tx hs) (over_below H.out _ _ _ _) (over_keep H.out _ _ _ _) rfl⟩
set_option maxRecDepth 100000 in
set_option maxHeartbeats 2000000 in
theorem lay_tsb (w : World) {B tb ib bb fb T I : Nat} {l : List UInt8} (d : Nat) (x : Rep) (q : Option Addr) (c : Nat) (h : EncAt w B tb ib bb fb T I l) (hT : T ≤ 1048576) (hI : I ≤ 65536) (hs : T < x.s.size) (hb : x.s.size < 1048577) (hn : 65537 ≤ x.l.length) :
    Calls Tryd.prog 54 #[.agg #[.int .i64 x.k, .int .i64 x.n, .string x.s, .slice q x.l.length c], .int .i64 (d : Int), .pointer (some ⟨tb, 0, none⟩), .pointer (some ⟨ib, 0, none⟩), .pointer (some ⟨bb, 0, none⟩), .pointer (some ⟨fb, 0, none⟩)] w (LayE w B tb ib bb fb T I l d x) := by
  have ct := h.t.cell 0
  have ci := h.i.cell 0
  have zt := h.t.frozen 0
  have zi := h.i.frozen 0
  simp only [List.getElem?_toArray, List.getElem?_cons_zero, List.getElem?_cons_succ] at ct ci
  have lt := h.t.lt
  have li := h.i.lt
  have nt : ¬ tb = w.heap.size := by omega
  have nt1 : ¬ tb = w.heap.size + 1 := by omega
  have ni : ¬ ib = w.heap.size := by omega
  have ni1 : ¬ ib = w.heap.size + 1 := by omega
  have nti : ¬ tb = ib := h.hb.2.2.2.2
  have nit : ¬ ib = tb := fun e => h.hb.2.2.2.2 e.symm
  have H := Lib.hid h
  have hm1 : min (x.s.size : Int) 1048577 = (x.s.size : Int) := by omega
  have hw1 : IntKind.i64.wrap ((T : Int) - (x.s.size : Int)) = (T : Int) - (x.s.size : Int) := IntWalk.i64_in _ (by omega)
  have hm2 : min (x.l.length : Int) 65537 = 65537 := by omega
  have hw2 : IntKind.i64.wrap ((I : Int) - 65537) = (I : Int) - 65537 := IntWalk.i64_in _ (by omega)
  have ht : decide ((0 : Int) ≤ (T : Int) - (x.s.size : Int)) = false := by simp; omega
  clear h hb hn
  go_enter Tryd.func54, Tryd.ntmps54
  go_wp2_with fail
  refine (must_no _ _).mono ?_
  rintro e w' ⟨rfl, rfl⟩
  go_wp2_with fail
  exact ⟨rfl, LayE.no (lay_tx hs) (over_below H.out _ _ _ _) (over_keep H.out _ _ _ _) rfl⟩
set_option maxRecDepth 100000 in
set_option maxHeartbeats 2000000 in
theorem lay_tbs (w : World) {B tb ib bb fb T I : Nat} {l : List UInt8} (d : Nat) (x : Rep) (q : Option Addr) (c : Nat) (h : EncAt w B tb ib bb fb T I l) (hT : T ≤ 1048576) (hI : I ≤ 65536) (hs : T < x.s.size) (hb : 1048577 ≤ x.s.size) (hn : x.l.length < 65537) :
    Calls Tryd.prog 54 #[.agg #[.int .i64 x.k, .int .i64 x.n, .string x.s, .slice q x.l.length c], .int .i64 (d : Int), .pointer (some ⟨tb, 0, none⟩), .pointer (some ⟨ib, 0, none⟩), .pointer (some ⟨bb, 0, none⟩), .pointer (some ⟨fb, 0, none⟩)] w (LayE w B tb ib bb fb T I l d x) := by
  have ct := h.t.cell 0
  have ci := h.i.cell 0
  have zt := h.t.frozen 0
  have zi := h.i.frozen 0
  simp only [List.getElem?_toArray, List.getElem?_cons_zero, List.getElem?_cons_succ] at ct ci
  have lt := h.t.lt
  have li := h.i.lt
  have nt : ¬ tb = w.heap.size := by omega
  have nt1 : ¬ tb = w.heap.size + 1 := by omega
  have ni : ¬ ib = w.heap.size := by omega
  have ni1 : ¬ ib = w.heap.size + 1 := by omega
  have nti : ¬ tb = ib := h.hb.2.2.2.2
  have nit : ¬ ib = tb := fun e => h.hb.2.2.2.2 e.symm
  have H := Lib.hid h
  have hm1 : min (x.s.size : Int) 1048577 = 1048577 := by omega
  have hw1 : IntKind.i64.wrap ((T : Int) - 1048577) = (T : Int) - 1048577 := IntWalk.i64_in _ (by omega)
  have hm2 : min (x.l.length : Int) 65537 = (x.l.length : Int) := by omega
  have hw2 : IntKind.i64.wrap ((I : Int) - (x.l.length : Int)) = (I : Int) - (x.l.length : Int) := IntWalk.i64_in _ (by omega)
  have ht : decide ((0 : Int) ≤ (T : Int) - 1048577) = false := by simp; omega
  clear h hb hn
  go_enter Tryd.func54, Tryd.ntmps54
  go_wp2_with fail
  refine (must_no _ _).mono ?_
  rintro e w' ⟨rfl, rfl⟩
  go_wp2_with fail
  exact ⟨rfl, LayE.no (lay_tx hs) (over_below H.out _ _ _ _) (over_keep H.out _ _ _ _) rfl⟩
set_option maxRecDepth 100000 in
set_option maxHeartbeats 2000000 in
theorem lay_tbb (w : World) {B tb ib bb fb T I : Nat} {l : List UInt8} (d : Nat) (x : Rep) (q : Option Addr) (c : Nat) (h : EncAt w B tb ib bb fb T I l) (hT : T ≤ 1048576) (hI : I ≤ 65536) (hs : T < x.s.size) (hb : 1048577 ≤ x.s.size) (hn : 65537 ≤ x.l.length) :
    Calls Tryd.prog 54 #[.agg #[.int .i64 x.k, .int .i64 x.n, .string x.s, .slice q x.l.length c], .int .i64 (d : Int), .pointer (some ⟨tb, 0, none⟩), .pointer (some ⟨ib, 0, none⟩), .pointer (some ⟨bb, 0, none⟩), .pointer (some ⟨fb, 0, none⟩)] w (LayE w B tb ib bb fb T I l d x) := by
  have ct := h.t.cell 0
  have ci := h.i.cell 0
  have zt := h.t.frozen 0
  have zi := h.i.frozen 0
  simp only [List.getElem?_toArray, List.getElem?_cons_zero, List.getElem?_cons_succ] at ct ci
  have lt := h.t.lt
  have li := h.i.lt
  have nt : ¬ tb = w.heap.size := by omega
  have nt1 : ¬ tb = w.heap.size + 1 := by omega
  have ni : ¬ ib = w.heap.size := by omega
  have ni1 : ¬ ib = w.heap.size + 1 := by omega
  have nti : ¬ tb = ib := h.hb.2.2.2.2
  have nit : ¬ ib = tb := fun e => h.hb.2.2.2.2 e.symm
  have H := Lib.hid h
  have hm1 : min (x.s.size : Int) 1048577 = 1048577 := by omega
  have hw1 : IntKind.i64.wrap ((T : Int) - 1048577) = (T : Int) - 1048577 := IntWalk.i64_in _ (by omega)
  have hm2 : min (x.l.length : Int) 65537 = 65537 := by omega
  have hw2 : IntKind.i64.wrap ((I : Int) - 65537) = (I : Int) - 65537 := IntWalk.i64_in _ (by omega)
  have ht : decide ((0 : Int) ≤ (T : Int) - 1048577) = false := by simp; omega
  clear h hb hn
  go_enter Tryd.func54, Tryd.ntmps54
  go_wp2_with fail
  refine (must_no _ _).mono ?_
  rintro e w' ⟨rfl, rfl⟩
  go_wp2_with fail
  exact ⟨rfl, LayE.no (lay_tx hs) (over_below H.out _ _ _ _) (over_keep H.out _ _ _ _) rfl⟩
set_option maxRecDepth 100000 in
set_option maxHeartbeats 2000000 in
theorem lay_is (w : World) {B tb ib bb fb T I : Nat} {l : List UInt8} (d : Nat) (x : Rep) (q : Option Addr) (c : Nat) (h : EncAt w B tb ib bb fb T I l) (hT : T ≤ 1048576) (hI : I ≤ 65536) (hs : x.s.size ≤ T) (ho : I < x.l.length) (hn : x.l.length < 65537) :
    Calls Tryd.prog 54 #[.agg #[.int .i64 x.k, .int .i64 x.n, .string x.s, .slice q x.l.length c], .int .i64 (d : Int), .pointer (some ⟨tb, 0, none⟩), .pointer (some ⟨ib, 0, none⟩), .pointer (some ⟨bb, 0, none⟩), .pointer (some ⟨fb, 0, none⟩)] w (LayE w B tb ib bb fb T I l d x) := by
  have ct := h.t.cell 0
  have ci := h.i.cell 0
  have zt := h.t.frozen 0
  have zi := h.i.frozen 0
  simp only [List.getElem?_toArray, List.getElem?_cons_zero, List.getElem?_cons_succ] at ct ci
  have lt := h.t.lt
  have li := h.i.lt
  have nt : ¬ tb = w.heap.size := by omega
  have nt1 : ¬ tb = w.heap.size + 1 := by omega
  have ni : ¬ ib = w.heap.size := by omega
  have ni1 : ¬ ib = w.heap.size + 1 := by omega
  have nti : ¬ tb = ib := h.hb.2.2.2.2
  have nit : ¬ ib = tb := fun e => h.hb.2.2.2.2 e.symm
  have H := Lib.hid h
  have hm1 : min (x.s.size : Int) 1048577 = (x.s.size : Int) := by omega
  have hw1 : IntKind.i64.wrap ((T : Int) - (x.s.size : Int)) = (T : Int) - (x.s.size : Int) := IntWalk.i64_in _ (by omega)
  have hm2 : min (x.l.length : Int) 65537 = (x.l.length : Int) := by omega
  have hw2 : IntKind.i64.wrap ((I : Int) - (x.l.length : Int)) = (I : Int) - (x.l.length : Int) := IntWalk.i64_in _ (by omega)
  have ht : decide ((0 : Int) ≤ (T : Int) - (x.s.size : Int)) = true := by simp; omega
  have hi : decide ((0 : Int) ≤ (I : Int) - (x.l.length : Int)) = false := decide_eq_false (by omega)
  have hi2 : decide ((x.l.length : Int) ≤ (I : Int)) = false := decide_eq_false (by omega)
  have hi3 : decide (x.l.length ≤ I) = false := decide_eq_false (by omega)
  clear h hn
  go_enter Tryd.func54, Tryd.ntmps54
  go_wp2_with fail
  refine (must_no _ _).mono ?_
  rintro e w' ⟨rfl, rfl⟩
  go_wp2_with fail
  exact ⟨rfl, LayE.no (lay_it ho) (over_below H.out _ _ _ _) (over_keep H.out _ _ _ _) rfl⟩
set_option maxRecDepth 100000 in
set_option maxHeartbeats 2000000 in
theorem lay_ib (w : World) {B tb ib bb fb T I : Nat} {l : List UInt8} (d : Nat) (x : Rep) (q : Option Addr) (c : Nat) (h : EncAt w B tb ib bb fb T I l) (hT : T ≤ 1048576) (hI : I ≤ 65536) (hs : x.s.size ≤ T) (ho : I < x.l.length) (hn : 65537 ≤ x.l.length) :
    Calls Tryd.prog 54 #[.agg #[.int .i64 x.k, .int .i64 x.n, .string x.s, .slice q x.l.length c], .int .i64 (d : Int), .pointer (some ⟨tb, 0, none⟩), .pointer (some ⟨ib, 0, none⟩), .pointer (some ⟨bb, 0, none⟩), .pointer (some ⟨fb, 0, none⟩)] w (LayE w B tb ib bb fb T I l d x) := by
  have ct := h.t.cell 0
  have ci := h.i.cell 0
  have zt := h.t.frozen 0
  have zi := h.i.frozen 0
  simp only [List.getElem?_toArray, List.getElem?_cons_zero, List.getElem?_cons_succ] at ct ci
  have lt := h.t.lt
  have li := h.i.lt
  have nt : ¬ tb = w.heap.size := by omega
  have nt1 : ¬ tb = w.heap.size + 1 := by omega
  have ni : ¬ ib = w.heap.size := by omega
  have ni1 : ¬ ib = w.heap.size + 1 := by omega
  have nti : ¬ tb = ib := h.hb.2.2.2.2
  have nit : ¬ ib = tb := fun e => h.hb.2.2.2.2 e.symm
  have H := Lib.hid h
  have hm1 : min (x.s.size : Int) 1048577 = (x.s.size : Int) := by omega
  have hw1 : IntKind.i64.wrap ((T : Int) - (x.s.size : Int)) = (T : Int) - (x.s.size : Int) := IntWalk.i64_in _ (by omega)
  have hm2 : min (x.l.length : Int) 65537 = 65537 := by omega
  have hw2 : IntKind.i64.wrap ((I : Int) - 65537) = (I : Int) - 65537 := IntWalk.i64_in _ (by omega)
  have ht : decide ((0 : Int) ≤ (T : Int) - (x.s.size : Int)) = true := by simp; omega
  have hi : decide ((0 : Int) ≤ (I : Int) - 65537) = false := decide_eq_false (by omega)
  have hi2 : decide (65537 ≤ (I : Int)) = false := decide_eq_false (by omega)
  have hi3 : decide (x.l.length ≤ I) = false := decide_eq_false (by omega)
  clear h hn
  go_enter Tryd.func54, Tryd.ntmps54
  go_wp2_with fail
  refine (must_no _ _).mono ?_
  rintro e w' ⟨rfl, rfl⟩
  go_wp2_with fail
  exact ⟨rfl, LayE.no (lay_it ho) (over_below H.out _ _ _ _) (over_keep H.out _ _ _ _) rfl⟩
theorem lay_over (w : World) {B tb ib bb fb T I : Nat} {l : List UInt8} (d : Nat) (x : Rep) (q : Option Addr) (c : Nat) (h : EncAt w B tb ib bb fb T I l) (hT : T ≤ 1048576) (hI : I ≤ 65536) (ho : T < x.s.size ∨ I < x.l.length) :
    Calls Tryd.prog 54 #[.agg #[.int .i64 x.k, .int .i64 x.n, .string x.s, .slice q x.l.length c], .int .i64 (d : Int), .pointer (some ⟨tb, 0, none⟩), .pointer (some ⟨ib, 0, none⟩), .pointer (some ⟨bb, 0, none⟩), .pointer (some ⟨fb, 0, none⟩)] w (LayE w B tb ib bb fb T I l d x) := by
  by_cases hs : T < x.s.size
  · by_cases h1 : x.s.size < 1048577
    · by_cases h2 : x.l.length < 65537
      · exact lay_tss w d x q c h hT hI hs h1 h2
      · exact lay_tsb w d x q c h hT hI hs h1 (by omega)
    · by_cases h2 : x.l.length < 65537
      · exact lay_tbs w d x q c h hT hI hs (by omega) h2
      · exact lay_tbb w d x q c h hT hI hs (by omega) (by omega)
  · by_cases h2 : x.l.length < 65537
    · exact lay_is w d x q c h hT hI (by omega) (by omega) h2
    · exact lay_ib w d x q c h hT hI (by omega) (by omega) (by omega)
end Go.Proofs.YtopdgmchkoaeeaaDoor
