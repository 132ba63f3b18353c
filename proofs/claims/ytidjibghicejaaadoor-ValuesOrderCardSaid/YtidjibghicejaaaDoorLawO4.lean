/- ValuesOrder's walk, the ways that end early. -/
import Derived.Test.YtidjibghicejaaaDoorLawO
namespace Go.Proofs.YtidjibghicejaaaDoor
open Go.RowKit
set_option linter.unusedVariables false
set_option linter.unusedSimpArgs false
set_option maxHeartbeats 2000000 in
set_option maxRecDepth 100000 in
theorem vord_long (a b : Vl) (w : World) (ht : Pow w) (ha : a.s.size ≤ 9223372036854775807) (hb : b.s.size ≤ 9223372036854775807)
    (hl : (decide (500 < (a.s.size : Int)) || decide (500 < (b.s.size : Int))) = true) :
    Calls Tryd.prog 4 #[a.v, b.v] w fun e w' => e = .returned (.bool true) ∧ Ext w w' := by
  go_enter Tryd.func4, Tryd.ntmps4
  go_wp2_with fail
  refine (long_two _ a b _ _ _ (new_at (by rw [size_alloc, size_alloc]) _) ha hb true hl).mono ?_
  rintro e w' ⟨rfl, rfl⟩
  go_wp2_with fail
  refine (known_any _ (((ht.alloc _).alloc _).alloc _)).mono ?_
  rintro e w' ⟨rfl, he⟩
  go_wp2_with fail
  go_ret
  exact ⟨rfl, ((((Ext.refl w).alloc _).alloc _).alloc _).trans he⟩
set_option maxHeartbeats 4000000 in
set_option maxRecDepth 100000 in
theorem vord_bad1 (k1 k2 n1 n2 : Int) (s1 s2 : ByteArray) (w : World) (ht : Pow w) (fa : Fits ⟨k1, n1, s1⟩) (fb : Fits ⟨k2, n2, s2⟩) (ca : Vl.ck ⟨k1, n1, s1⟩ = false)
    (hl : (decide (500 < (s1.size : Int)) || decide (500 < (s2.size : Int))) = false) (v : Vl)
    (z5 : opZ ⟨#[60]⟩ 0 0 ⟨k1, n1, s1⟩ ⟨k2, n2, s2⟩ = (.zero, sType, 0)) (z9 : opZ ⟨#[61, 61]⟩ 0 0 ⟨k1, n1, s1⟩ ⟨k2, n2, s2⟩ = (.zero, sType, 0)) (z7 : opZ ⟨#[62]⟩ 0 0 ⟨k1, n1, s1⟩ ⟨k2, n2, s2⟩ = (.zero, sType, 0)) :
    Calls Tryd.prog 4 #[vv k1 n1 s1, vv k2 n2 s2] w fun e w' => e = .returned (.bool true) ∧ Ext w w' := by
  have c5 := fun g W h ht => opc ⟨#[60]⟩ ⟨k1, n1, s1⟩ ⟨k2, n2, s2⟩ _ _ z5 fa fb g W h ht
  have c9 := fun g W h ht => opc ⟨#[61, 61]⟩ ⟨k1, n1, s1⟩ ⟨k2, n2, s2⟩ _ _ z9 fa fb g W h ht
  have c7 := fun g W h ht => opc ⟨#[62]⟩ ⟨k1, n1, s1⟩ ⟨k2, n2, s2⟩ _ _ z7 fa fb g W h ht
  clear z5 z9 z7
  obtain ⟨vk, vn, vs⟩ := v
  have za := fa.sz
  have zb := fb.sz
  have t1 : sType.toList = [116, 121, 112, 101] := by rw [Lib.toList_data]; rfl
  go_enter Tryd.func4, Tryd.ntmps4
  go_wp2_with fail
  refine (long_two _ ⟨k1, n1, s1⟩ ⟨k2, n2, s2⟩ _ _ _ (new_at (by rw [size_alloc, size_alloc]) _) (Nat.le_trans za (by decide)) (Nat.le_trans zb (by decide)) false hl).mono ?_
  rintro e w0 ⟨rfl, hw0⟩
  have l0 : w.heap.size + 1 + 1 < w0.heap.size := by rw [hw0, size_alloc, size_alloc, size_alloc]; omega
  have k0 : Ext w w0 := hw0 ▸ ((((Ext.refl w).alloc _).alloc _).alloc _)
  have b0 : w0.cell? ⟨w.heap.size, 0, none⟩ = some (.int .i64 k1) := by rw [hw0]; go_simp
  have b1 : w0.cell? ⟨w.heap.size, 1, none⟩ = some (.int .i64 n1) := by rw [hw0]; go_simp
  have b2 : w0.cell? ⟨w.heap.size, 2, none⟩ = some (.string s1) := by rw [hw0]; go_simp
  have b3 : w0.cell? ⟨w.heap.size + 1, 0, none⟩ = some (.int .i64 k2) := by rw [hw0]; go_simp
  have b4 : w0.cell? ⟨w.heap.size + 1, 1, none⟩ = some (.int .i64 n2) := by rw [hw0]; go_simp
  have b5 : w0.cell? ⟨w.heap.size + 1, 2, none⟩ = some (.string s2) := by rw [hw0]; go_simp
  have ht0 := ht.ext k0
  clear hw0
  go_wp2_with fail
  refine (new_any 0 _ (by omega) (by omega)).mono ?_
  rintro e w1 ⟨rfl, hw1⟩
  have hb1 : HB w1 w0.heap.size (.slice none 0 0) 0 0 := hw1 ▸ Blk.new _ _ _
  have k1' : Ext w0 w1 := hw1 ▸ (Ext.refl w0).alloc _
  have l1 := hb1.lt
  clear hw1
  have y0 : w.heap.size < w1.heap.size := by omega
  have y1 : w.heap.size + 1 < w1.heap.size := by omega
  replace b0 := (k1'.cells.1 _ 0 (by omega)).trans b0
  replace b1 := (k1'.cells.1 _ 1 (by omega)).trans b1
  replace b2 := (k1'.cells.1 _ 2 (by omega)).trans b2
  replace b3 := (k1'.cells.1 _ 0 (by omega)).trans b3
  replace b4 := (k1'.cells.1 _ 1 (by omega)).trans b4
  replace b5 := (k1'.cells.1 _ 2 (by omega)).trans b5
  clear l0 l1
  go_wp2_with fail
  refine (c5 _ _ hb1 (ht0.ext k1')).mono ?_
  rintro e w2 ⟨rfl, e2⟩
  have hb2 := hb1.ext e2
  have E2 : Ext w1 w2 := e2
  have k2 : Ext w0 w2 := k1'.trans E2
  replace b0 := (E2.cells.1 _ 0 (by omega)).trans b0
  replace b1 := (E2.cells.1 _ 1 (by omega)).trans b1
  replace b2 := (E2.cells.1 _ 2 (by omega)).trans b2
  replace b3 := (E2.cells.1 _ 0 (by omega)).trans b3
  replace b4 := (E2.cells.1 _ 1 (by omega)).trans b4
  replace b5 := (E2.cells.1 _ 2 (by omega)).trans b5
  replace y0 := Nat.lt_of_lt_of_le y0 E2.le
  replace y1 := Nat.lt_of_lt_of_le y1 E2.le
  clear e2 E2 hb1 k1'
  go_wp2_with fail
  refine (c9 _ _ (hb2.alloc (.cells #[.int .i64 0, .int .i64 0, .string ⟨#[]⟩] 24)) (ht0.ext (k2.alloc (.cells #[.int .i64 0, .int .i64 0, .string ⟨#[]⟩] 24)))).mono ?_
  rintro e w3 ⟨rfl, e3⟩
  have hb3 := (hb2.alloc (.cells #[.int .i64 0, .int .i64 0, .string ⟨#[]⟩] 24)).ext e3
  have E3 : Ext w2 w3 := ((Ext.refl _).alloc _).trans e3
  have k3 : Ext w0 w3 := k2.trans E3
  replace b0 := (E3.cells.1 _ 0 (by omega)).trans b0
  replace b1 := (E3.cells.1 _ 1 (by omega)).trans b1
  replace b2 := (E3.cells.1 _ 2 (by omega)).trans b2
  replace b3 := (E3.cells.1 _ 0 (by omega)).trans b3
  replace b4 := (E3.cells.1 _ 1 (by omega)).trans b4
  replace b5 := (E3.cells.1 _ 2 (by omega)).trans b5
  replace y0 := Nat.lt_of_lt_of_le y0 E3.le
  replace y1 := Nat.lt_of_lt_of_le y1 E3.le
  clear e3 E3 hb2 k2
  go_wp2_with fail
  refine (c7 _ _ (hb3.alloc (.cells #[.int .i64 0, .int .i64 0, .string ⟨#[]⟩] 24)) (ht0.ext (k3.alloc (.cells #[.int .i64 0, .int .i64 0, .string ⟨#[]⟩] 24)))).mono ?_
  rintro e w4 ⟨rfl, e4⟩
  have hb4 := (hb3.alloc (.cells #[.int .i64 0, .int .i64 0, .string ⟨#[]⟩] 24)).ext e4
  have E4 : Ext w3 w4 := ((Ext.refl _).alloc _).trans e4
  have k4 : Ext w0 w4 := k3.trans E4
  replace b0 := (E4.cells.1 _ 0 (by omega)).trans b0
  replace b1 := (E4.cells.1 _ 1 (by omega)).trans b1
  replace b2 := (E4.cells.1 _ 2 (by omega)).trans b2
  replace b3 := (E4.cells.1 _ 0 (by omega)).trans b3
  replace b4 := (E4.cells.1 _ 1 (by omega)).trans b4
  replace b5 := (E4.cells.1 _ 2 (by omega)).trans b5
  replace y0 := Nat.lt_of_lt_of_le y0 E4.le
  replace y1 := Nat.lt_of_lt_of_le y1 E4.le
  clear e4 E4 hb3 k3
  go_wp2_with fail
  refine (rck_any ⟨k1, n1, s1⟩ false ca _).mono ?_
  rintro e w5 ⟨rfl, e5⟩
  have hb5 := (hb4.alloc (.cells #[.int .i64 0, .int .i64 0, .string ⟨#[]⟩] 24)).ext e5
  have E5 : Ext w4 w5 := ((Ext.refl _).alloc _).trans e5
  have k5 : Ext w0 w5 := k4.trans E5
  replace b0 := (E5.cells.1 _ 0 (by omega)).trans b0
  replace b1 := (E5.cells.1 _ 1 (by omega)).trans b1
  replace b2 := (E5.cells.1 _ 2 (by omega)).trans b2
  replace b3 := (E5.cells.1 _ 0 (by omega)).trans b3
  replace b4 := (E5.cells.1 _ 1 (by omega)).trans b4
  replace b5 := (E5.cells.1 _ 2 (by omega)).trans b5
  replace y0 := Nat.lt_of_lt_of_le y0 E5.le
  replace y1 := Nat.lt_of_lt_of_le y1 E5.le
  clear e5 E5 hb4 k4
  go_wp2_with fail
  refine (known_any _ (ht0.ext k5)).mono ?_
  rintro e w7 ⟨rfl, e7⟩
  have hb7 := hb5.ext e7
  have E7 : Ext w5 w7 := e7
  have k7 : Ext w0 w7 := k5.trans E7
  replace b0 := (E7.cells.1 _ 0 (by omega)).trans b0
  replace b1 := (E7.cells.1 _ 1 (by omega)).trans b1
  replace b2 := (E7.cells.1 _ 2 (by omega)).trans b2
  replace b3 := (E7.cells.1 _ 0 (by omega)).trans b3
  replace b4 := (E7.cells.1 _ 1 (by omega)).trans b4
  replace b5 := (E7.cells.1 _ 2 (by omega)).trans b5
  replace y0 := Nat.lt_of_lt_of_le y0 E7.le
  replace y1 := Nat.lt_of_lt_of_le y1 E7.le
  clear e7 E7 hb5 k5
  go_wp2_with fail
  go_ret
  exact ⟨rfl, k0.trans k7⟩
set_option maxHeartbeats 4000000 in
set_option maxRecDepth 100000 in
theorem vord_bad2 (k1 k2 n1 n2 : Int) (s1 s2 : ByteArray) (w : World) (ht : Pow w) (fa : Fits ⟨k1, n1, s1⟩) (fb : Fits ⟨k2, n2, s2⟩) (ca : Vl.ck ⟨k1, n1, s1⟩ = true) (cb : Vl.ck ⟨k2, n2, s2⟩ = false)
    (hl : (decide (500 < (s1.size : Int)) || decide (500 < (s2.size : Int))) = false) (v : Vl)
    (z5 : opZ ⟨#[60]⟩ 0 0 ⟨k1, n1, s1⟩ ⟨k2, n2, s2⟩ = (.zero, sType, 0)) (z9 : opZ ⟨#[61, 61]⟩ 0 0 ⟨k1, n1, s1⟩ ⟨k2, n2, s2⟩ = (.zero, sType, 0)) (z7 : opZ ⟨#[62]⟩ 0 0 ⟨k1, n1, s1⟩ ⟨k2, n2, s2⟩ = (.zero, sType, 0)) :
    Calls Tryd.prog 4 #[vv k1 n1 s1, vv k2 n2 s2] w fun e w' => e = .returned (.bool true) ∧ Ext w w' := by
  have c5 := fun g W h ht => opc ⟨#[60]⟩ ⟨k1, n1, s1⟩ ⟨k2, n2, s2⟩ _ _ z5 fa fb g W h ht
  have c9 := fun g W h ht => opc ⟨#[61, 61]⟩ ⟨k1, n1, s1⟩ ⟨k2, n2, s2⟩ _ _ z9 fa fb g W h ht
  have c7 := fun g W h ht => opc ⟨#[62]⟩ ⟨k1, n1, s1⟩ ⟨k2, n2, s2⟩ _ _ z7 fa fb g W h ht
  clear z5 z9 z7
  obtain ⟨vk, vn, vs⟩ := v
  have za := fa.sz
  have zb := fb.sz
  have t1 : sType.toList = [116, 121, 112, 101] := by rw [Lib.toList_data]; rfl
  go_enter Tryd.func4, Tryd.ntmps4
  go_wp2_with fail
  refine (long_two _ ⟨k1, n1, s1⟩ ⟨k2, n2, s2⟩ _ _ _ (new_at (by rw [size_alloc, size_alloc]) _) (Nat.le_trans za (by decide)) (Nat.le_trans zb (by decide)) false hl).mono ?_
  rintro e w0 ⟨rfl, hw0⟩
  have l0 : w.heap.size + 1 + 1 < w0.heap.size := by rw [hw0, size_alloc, size_alloc, size_alloc]; omega
  have k0 : Ext w w0 := hw0 ▸ ((((Ext.refl w).alloc _).alloc _).alloc _)
  have b0 : w0.cell? ⟨w.heap.size, 0, none⟩ = some (.int .i64 k1) := by rw [hw0]; go_simp
  have b1 : w0.cell? ⟨w.heap.size, 1, none⟩ = some (.int .i64 n1) := by rw [hw0]; go_simp
  have b2 : w0.cell? ⟨w.heap.size, 2, none⟩ = some (.string s1) := by rw [hw0]; go_simp
  have b3 : w0.cell? ⟨w.heap.size + 1, 0, none⟩ = some (.int .i64 k2) := by rw [hw0]; go_simp
  have b4 : w0.cell? ⟨w.heap.size + 1, 1, none⟩ = some (.int .i64 n2) := by rw [hw0]; go_simp
  have b5 : w0.cell? ⟨w.heap.size + 1, 2, none⟩ = some (.string s2) := by rw [hw0]; go_simp
  have ht0 := ht.ext k0
  clear hw0
  go_wp2_with fail
  refine (new_any 0 _ (by omega) (by omega)).mono ?_
  rintro e w1 ⟨rfl, hw1⟩
  have hb1 : HB w1 w0.heap.size (.slice none 0 0) 0 0 := hw1 ▸ Blk.new _ _ _
  have k1' : Ext w0 w1 := hw1 ▸ (Ext.refl w0).alloc _
  have l1 := hb1.lt
  clear hw1
  have y0 : w.heap.size < w1.heap.size := by omega
  have y1 : w.heap.size + 1 < w1.heap.size := by omega
  replace b0 := (k1'.cells.1 _ 0 (by omega)).trans b0
  replace b1 := (k1'.cells.1 _ 1 (by omega)).trans b1
  replace b2 := (k1'.cells.1 _ 2 (by omega)).trans b2
  replace b3 := (k1'.cells.1 _ 0 (by omega)).trans b3
  replace b4 := (k1'.cells.1 _ 1 (by omega)).trans b4
  replace b5 := (k1'.cells.1 _ 2 (by omega)).trans b5
  clear l0 l1
  go_wp2_with fail
  refine (c5 _ _ hb1 (ht0.ext k1')).mono ?_
  rintro e w2 ⟨rfl, e2⟩
  have hb2 := hb1.ext e2
  have E2 : Ext w1 w2 := e2
  have k2 : Ext w0 w2 := k1'.trans E2
  replace b0 := (E2.cells.1 _ 0 (by omega)).trans b0
  replace b1 := (E2.cells.1 _ 1 (by omega)).trans b1
  replace b2 := (E2.cells.1 _ 2 (by omega)).trans b2
  replace b3 := (E2.cells.1 _ 0 (by omega)).trans b3
  replace b4 := (E2.cells.1 _ 1 (by omega)).trans b4
  replace b5 := (E2.cells.1 _ 2 (by omega)).trans b5
  replace y0 := Nat.lt_of_lt_of_le y0 E2.le
  replace y1 := Nat.lt_of_lt_of_le y1 E2.le
  clear e2 E2 hb1 k1'
  go_wp2_with fail
  refine (c9 _ _ (hb2.alloc (.cells #[.int .i64 0, .int .i64 0, .string ⟨#[]⟩] 24)) (ht0.ext (k2.alloc (.cells #[.int .i64 0, .int .i64 0, .string ⟨#[]⟩] 24)))).mono ?_
  rintro e w3 ⟨rfl, e3⟩
  have hb3 := (hb2.alloc (.cells #[.int .i64 0, .int .i64 0, .string ⟨#[]⟩] 24)).ext e3
  have E3 : Ext w2 w3 := ((Ext.refl _).alloc _).trans e3
  have k3 : Ext w0 w3 := k2.trans E3
  replace b0 := (E3.cells.1 _ 0 (by omega)).trans b0
  replace b1 := (E3.cells.1 _ 1 (by omega)).trans b1
  replace b2 := (E3.cells.1 _ 2 (by omega)).trans b2
  replace b3 := (E3.cells.1 _ 0 (by omega)).trans b3
  replace b4 := (E3.cells.1 _ 1 (by omega)).trans b4
  replace b5 := (E3.cells.1 _ 2 (by omega)).trans b5
  replace y0 := Nat.lt_of_lt_of_le y0 E3.le
  replace y1 := Nat.lt_of_lt_of_le y1 E3.le
  clear e3 E3 hb2 k2
  go_wp2_with fail
  refine (c7 _ _ (hb3.alloc (.cells #[.int .i64 0, .int .i64 0, .string ⟨#[]⟩] 24)) (ht0.ext (k3.alloc (.cells #[.int .i64 0, .int .i64 0, .string ⟨#[]⟩] 24)))).mono ?_
  rintro e w4 ⟨rfl, e4⟩
  have hb4 := (hb3.alloc (.cells #[.int .i64 0, .int .i64 0, .string ⟨#[]⟩] 24)).ext e4
  have E4 : Ext w3 w4 := ((Ext.refl _).alloc _).trans e4
  have k4 : Ext w0 w4 := k3.trans E4
  replace b0 := (E4.cells.1 _ 0 (by omega)).trans b0
  replace b1 := (E4.cells.1 _ 1 (by omega)).trans b1
  replace b2 := (E4.cells.1 _ 2 (by omega)).trans b2
  replace b3 := (E4.cells.1 _ 0 (by omega)).trans b3
  replace b4 := (E4.cells.1 _ 1 (by omega)).trans b4
  replace b5 := (E4.cells.1 _ 2 (by omega)).trans b5
  replace y0 := Nat.lt_of_lt_of_le y0 E4.le
  replace y1 := Nat.lt_of_lt_of_le y1 E4.le
  clear e4 E4 hb3 k3
  go_wp2_with fail
  refine (rck_any ⟨k1, n1, s1⟩ true ca _).mono ?_
  rintro e w5 ⟨rfl, e5⟩
  have hb5 := (hb4.alloc (.cells #[.int .i64 0, .int .i64 0, .string ⟨#[]⟩] 24)).ext e5
  have E5 : Ext w4 w5 := ((Ext.refl _).alloc _).trans e5
  have k5 : Ext w0 w5 := k4.trans E5
  replace b0 := (E5.cells.1 _ 0 (by omega)).trans b0
  replace b1 := (E5.cells.1 _ 1 (by omega)).trans b1
  replace b2 := (E5.cells.1 _ 2 (by omega)).trans b2
  replace b3 := (E5.cells.1 _ 0 (by omega)).trans b3
  replace b4 := (E5.cells.1 _ 1 (by omega)).trans b4
  replace b5 := (E5.cells.1 _ 2 (by omega)).trans b5
  replace y0 := Nat.lt_of_lt_of_le y0 E5.le
  replace y1 := Nat.lt_of_lt_of_le y1 E5.le
  clear e5 E5 hb4 k4
  go_wp2_with fail
  refine (rck_any ⟨k2, n2, s2⟩ false cb _).mono ?_
  rintro e w6 ⟨rfl, e6⟩
  have hb6 := hb5.ext e6
  have E6 : Ext w5 w6 := e6
  have k6 : Ext w0 w6 := k5.trans E6
  replace b0 := (E6.cells.1 _ 0 (by omega)).trans b0
  replace b1 := (E6.cells.1 _ 1 (by omega)).trans b1
  replace b2 := (E6.cells.1 _ 2 (by omega)).trans b2
  replace b3 := (E6.cells.1 _ 0 (by omega)).trans b3
  replace b4 := (E6.cells.1 _ 1 (by omega)).trans b4
  replace b5 := (E6.cells.1 _ 2 (by omega)).trans b5
  replace y0 := Nat.lt_of_lt_of_le y0 E6.le
  replace y1 := Nat.lt_of_lt_of_le y1 E6.le
  clear e6 E6 hb5 k5
  go_wp2_with fail
  refine (known_any _ (ht0.ext k6)).mono ?_
  rintro e w7 ⟨rfl, e7⟩
  have hb7 := hb6.ext e7
  have E7 : Ext w6 w7 := e7
  have k7 : Ext w0 w7 := k6.trans E7
  replace b0 := (E7.cells.1 _ 0 (by omega)).trans b0
  replace b1 := (E7.cells.1 _ 1 (by omega)).trans b1
  replace b2 := (E7.cells.1 _ 2 (by omega)).trans b2
  replace b3 := (E7.cells.1 _ 0 (by omega)).trans b3
  replace b4 := (E7.cells.1 _ 1 (by omega)).trans b4
  replace b5 := (E7.cells.1 _ 2 (by omega)).trans b5
  replace y0 := Nat.lt_of_lt_of_le y0 E7.le
  replace y1 := Nat.lt_of_lt_of_le y1 E7.le
  clear e7 E7 hb6 k6
  go_wp2_with fail
  go_ret
  exact ⟨rfl, k0.trans k7⟩
set_option maxHeartbeats 4000000 in
set_option maxRecDepth 100000 in
theorem vord_kinds (k1 k2 n1 n2 : Int) (s1 s2 : ByteArray) (w : World) (ht : Pow w) (fa : Fits ⟨k1, n1, s1⟩) (fb : Fits ⟨k2, n2, s2⟩) (ca : Vl.ck ⟨k1, n1, s1⟩ = true) (cb : Vl.ck ⟨k2, n2, s2⟩ = true) (hk : (k1 == k2) = false) (hk' : (k1 != k2) = true)
    (hl : (decide (500 < (s1.size : Int)) || decide (500 < (s2.size : Int))) = false) (v : Vl)
    (z5 : opZ ⟨#[60]⟩ 0 0 ⟨k1, n1, s1⟩ ⟨k2, n2, s2⟩ = (.zero, sType, 0)) (z9 : opZ ⟨#[61, 61]⟩ 0 0 ⟨k1, n1, s1⟩ ⟨k2, n2, s2⟩ = (v, ⟨#[]⟩, 0)) (z7 : opZ ⟨#[62]⟩ 0 0 ⟨k1, n1, s1⟩ ⟨k2, n2, s2⟩ = (.zero, sType, 0)) :
    Calls Tryd.prog 4 #[vv k1 n1 s1, vv k2 n2 s2] w fun e w' => e = .returned (.bool true) ∧ Ext w w' := by
  have c5 := fun g W h ht => opc ⟨#[60]⟩ ⟨k1, n1, s1⟩ ⟨k2, n2, s2⟩ _ _ z5 fa fb g W h ht
  have c9 := fun g W h ht => opc ⟨#[61, 61]⟩ ⟨k1, n1, s1⟩ ⟨k2, n2, s2⟩ _ _ z9 fa fb g W h ht
  have c7 := fun g W h ht => opc ⟨#[62]⟩ ⟨k1, n1, s1⟩ ⟨k2, n2, s2⟩ _ _ z7 fa fb g W h ht
  clear z5 z9 z7
  obtain ⟨vk, vn, vs⟩ := v
  have za := fa.sz
  have zb := fb.sz
  have t1 : sType.toList = [116, 121, 112, 101] := by rw [Lib.toList_data]; rfl
  go_enter Tryd.func4, Tryd.ntmps4
  go_wp2_with fail
  refine (long_two _ ⟨k1, n1, s1⟩ ⟨k2, n2, s2⟩ _ _ _ (new_at (by rw [size_alloc, size_alloc]) _) (Nat.le_trans za (by decide)) (Nat.le_trans zb (by decide)) false hl).mono ?_
  rintro e w0 ⟨rfl, hw0⟩
  have l0 : w.heap.size + 1 + 1 < w0.heap.size := by rw [hw0, size_alloc, size_alloc, size_alloc]; omega
  have k0 : Ext w w0 := hw0 ▸ ((((Ext.refl w).alloc _).alloc _).alloc _)
  have b0 : w0.cell? ⟨w.heap.size, 0, none⟩ = some (.int .i64 k1) := by rw [hw0]; go_simp
  have b1 : w0.cell? ⟨w.heap.size, 1, none⟩ = some (.int .i64 n1) := by rw [hw0]; go_simp
  have b2 : w0.cell? ⟨w.heap.size, 2, none⟩ = some (.string s1) := by rw [hw0]; go_simp
  have b3 : w0.cell? ⟨w.heap.size + 1, 0, none⟩ = some (.int .i64 k2) := by rw [hw0]; go_simp
  have b4 : w0.cell? ⟨w.heap.size + 1, 1, none⟩ = some (.int .i64 n2) := by rw [hw0]; go_simp
  have b5 : w0.cell? ⟨w.heap.size + 1, 2, none⟩ = some (.string s2) := by rw [hw0]; go_simp
  have ht0 := ht.ext k0
  clear hw0
  go_wp2_with fail
  refine (new_any 0 _ (by omega) (by omega)).mono ?_
  rintro e w1 ⟨rfl, hw1⟩
  have hb1 : HB w1 w0.heap.size (.slice none 0 0) 0 0 := hw1 ▸ Blk.new _ _ _
  have k1' : Ext w0 w1 := hw1 ▸ (Ext.refl w0).alloc _
  have l1 := hb1.lt
  clear hw1
  have y0 : w.heap.size < w1.heap.size := by omega
  have y1 : w.heap.size + 1 < w1.heap.size := by omega
  replace b0 := (k1'.cells.1 _ 0 (by omega)).trans b0
  replace b1 := (k1'.cells.1 _ 1 (by omega)).trans b1
  replace b2 := (k1'.cells.1 _ 2 (by omega)).trans b2
  replace b3 := (k1'.cells.1 _ 0 (by omega)).trans b3
  replace b4 := (k1'.cells.1 _ 1 (by omega)).trans b4
  replace b5 := (k1'.cells.1 _ 2 (by omega)).trans b5
  clear l0 l1
  go_wp2_with fail
  refine (c5 _ _ hb1 (ht0.ext k1')).mono ?_
  rintro e w2 ⟨rfl, e2⟩
  have hb2 := hb1.ext e2
  have E2 : Ext w1 w2 := e2
  have k2 : Ext w0 w2 := k1'.trans E2
  replace b0 := (E2.cells.1 _ 0 (by omega)).trans b0
  replace b1 := (E2.cells.1 _ 1 (by omega)).trans b1
  replace b2 := (E2.cells.1 _ 2 (by omega)).trans b2
  replace b3 := (E2.cells.1 _ 0 (by omega)).trans b3
  replace b4 := (E2.cells.1 _ 1 (by omega)).trans b4
  replace b5 := (E2.cells.1 _ 2 (by omega)).trans b5
  replace y0 := Nat.lt_of_lt_of_le y0 E2.le
  replace y1 := Nat.lt_of_lt_of_le y1 E2.le
  clear e2 E2 hb1 k1'
  go_wp2_with fail
  refine (c9 _ _ (hb2.alloc (.cells #[.int .i64 0, .int .i64 0, .string ⟨#[]⟩] 24)) (ht0.ext (k2.alloc (.cells #[.int .i64 0, .int .i64 0, .string ⟨#[]⟩] 24)))).mono ?_
  rintro e w3 ⟨rfl, e3⟩
  have hb3 := (hb2.alloc (.cells #[.int .i64 0, .int .i64 0, .string ⟨#[]⟩] 24)).ext e3
  have E3 : Ext w2 w3 := ((Ext.refl _).alloc _).trans e3
  have k3 : Ext w0 w3 := k2.trans E3
  replace b0 := (E3.cells.1 _ 0 (by omega)).trans b0
  replace b1 := (E3.cells.1 _ 1 (by omega)).trans b1
  replace b2 := (E3.cells.1 _ 2 (by omega)).trans b2
  replace b3 := (E3.cells.1 _ 0 (by omega)).trans b3
  replace b4 := (E3.cells.1 _ 1 (by omega)).trans b4
  replace b5 := (E3.cells.1 _ 2 (by omega)).trans b5
  replace y0 := Nat.lt_of_lt_of_le y0 E3.le
  replace y1 := Nat.lt_of_lt_of_le y1 E3.le
  clear e3 E3 hb2 k2
  go_wp2_with fail
  refine (c7 _ _ (hb3.alloc (.cells #[.int .i64 vk, .int .i64 vn, .string vs] 24)) (ht0.ext (k3.alloc (.cells #[.int .i64 vk, .int .i64 vn, .string vs] 24)))).mono ?_
  rintro e w4 ⟨rfl, e4⟩
  have hb4 := (hb3.alloc (.cells #[.int .i64 vk, .int .i64 vn, .string vs] 24)).ext e4
  have E4 : Ext w3 w4 := ((Ext.refl _).alloc _).trans e4
  have k4 : Ext w0 w4 := k3.trans E4
  replace b0 := (E4.cells.1 _ 0 (by omega)).trans b0
  replace b1 := (E4.cells.1 _ 1 (by omega)).trans b1
  replace b2 := (E4.cells.1 _ 2 (by omega)).trans b2
  replace b3 := (E4.cells.1 _ 0 (by omega)).trans b3
  replace b4 := (E4.cells.1 _ 1 (by omega)).trans b4
  replace b5 := (E4.cells.1 _ 2 (by omega)).trans b5
  replace y0 := Nat.lt_of_lt_of_le y0 E4.le
  replace y1 := Nat.lt_of_lt_of_le y1 E4.le
  clear e4 E4 hb3 k3
  go_wp2_with fail
  refine (rck_any ⟨k1, n1, s1⟩ true ca _).mono ?_
  rintro e w5 ⟨rfl, e5⟩
  have hb5 := (hb4.alloc (.cells #[.int .i64 0, .int .i64 0, .string ⟨#[]⟩] 24)).ext e5
  have E5 : Ext w4 w5 := ((Ext.refl _).alloc _).trans e5
  have k5 : Ext w0 w5 := k4.trans E5
  replace b0 := (E5.cells.1 _ 0 (by omega)).trans b0
  replace b1 := (E5.cells.1 _ 1 (by omega)).trans b1
  replace b2 := (E5.cells.1 _ 2 (by omega)).trans b2
  replace b3 := (E5.cells.1 _ 0 (by omega)).trans b3
  replace b4 := (E5.cells.1 _ 1 (by omega)).trans b4
  replace b5 := (E5.cells.1 _ 2 (by omega)).trans b5
  replace y0 := Nat.lt_of_lt_of_le y0 E5.le
  replace y1 := Nat.lt_of_lt_of_le y1 E5.le
  clear e5 E5 hb4 k4
  go_wp2_with fail
  refine (rck_any ⟨k2, n2, s2⟩ true cb _).mono ?_
  rintro e w6 ⟨rfl, e6⟩
  have hb6 := hb5.ext e6
  have E6 : Ext w5 w6 := e6
  have k6 : Ext w0 w6 := k5.trans E6
  replace b0 := (E6.cells.1 _ 0 (by omega)).trans b0
  replace b1 := (E6.cells.1 _ 1 (by omega)).trans b1
  replace b2 := (E6.cells.1 _ 2 (by omega)).trans b2
  replace b3 := (E6.cells.1 _ 0 (by omega)).trans b3
  replace b4 := (E6.cells.1 _ 1 (by omega)).trans b4
  replace b5 := (E6.cells.1 _ 2 (by omega)).trans b5
  replace y0 := Nat.lt_of_lt_of_le y0 E6.le
  replace y1 := Nat.lt_of_lt_of_le y1 E6.le
  clear e6 E6 hb5 k5
  go_wp2_with fail
  refine (known_any _ (ht0.ext k6)).mono ?_
  rintro e w7 ⟨rfl, e7⟩
  have hb7 := hb6.ext e7
  have E7 : Ext w6 w7 := e7
  have k7 : Ext w0 w7 := k6.trans E7
  replace b0 := (E7.cells.1 _ 0 (by omega)).trans b0
  replace b1 := (E7.cells.1 _ 1 (by omega)).trans b1
  replace b2 := (E7.cells.1 _ 2 (by omega)).trans b2
  replace b3 := (E7.cells.1 _ 0 (by omega)).trans b3
  replace b4 := (E7.cells.1 _ 1 (by omega)).trans b4
  replace b5 := (E7.cells.1 _ 2 (by omega)).trans b5
  replace y0 := Nat.lt_of_lt_of_le y0 E7.le
  replace y1 := Nat.lt_of_lt_of_le y1 E7.le
  clear e7 E7 hb6 k6
  go_wp2_with fail
  go_ret
  exact ⟨rfl, k0.trans k7⟩
set_option maxHeartbeats 4000000 in
set_option maxRecDepth 100000 in
theorem vord_odd (k1 n1 n2 : Int) (s1 s2 : ByteArray) (w : World) (ht : Pow w) (fa : Fits ⟨k1, n1, s1⟩) (fb : Fits ⟨k1, n2, s2⟩) (ca : Vl.ck ⟨k1, n1, s1⟩ = true) (cb : Vl.ck ⟨k1, n2, s2⟩ = true) (h2 : (k1 != 2) = true) (h3 : (k1 != 3) = true) (hk : ((k1 != k1)) = false)
    (hl : (decide (500 < (s1.size : Int)) || decide (500 < (s2.size : Int))) = false) (v : Vl)
    (z5 : opZ ⟨#[60]⟩ 0 0 ⟨k1, n1, s1⟩ ⟨k1, n2, s2⟩ = (.zero, sType, 0)) (z9 : opZ ⟨#[61, 61]⟩ 0 0 ⟨k1, n1, s1⟩ ⟨k1, n2, s2⟩ = (v, ⟨#[]⟩, 0)) (z7 : opZ ⟨#[62]⟩ 0 0 ⟨k1, n1, s1⟩ ⟨k1, n2, s2⟩ = (.zero, sType, 0)) :
    Calls Tryd.prog 4 #[vv k1 n1 s1, vv k1 n2 s2] w fun e w' => e = .returned (.bool true) ∧ Ext w w' := by
  have c5 := fun g W h ht => opc ⟨#[60]⟩ ⟨k1, n1, s1⟩ ⟨k1, n2, s2⟩ _ _ z5 fa fb g W h ht
  have c9 := fun g W h ht => opc ⟨#[61, 61]⟩ ⟨k1, n1, s1⟩ ⟨k1, n2, s2⟩ _ _ z9 fa fb g W h ht
  have c7 := fun g W h ht => opc ⟨#[62]⟩ ⟨k1, n1, s1⟩ ⟨k1, n2, s2⟩ _ _ z7 fa fb g W h ht
  clear z5 z9 z7
  obtain ⟨vk, vn, vs⟩ := v
  have za := fa.sz
  have zb := fb.sz
  have t1 : sType.toList = [116, 121, 112, 101] := by rw [Lib.toList_data]; rfl
  go_enter Tryd.func4, Tryd.ntmps4
  go_wp2_with fail
  refine (long_two _ ⟨k1, n1, s1⟩ ⟨k1, n2, s2⟩ _ _ _ (new_at (by rw [size_alloc, size_alloc]) _) (Nat.le_trans za (by decide)) (Nat.le_trans zb (by decide)) false hl).mono ?_
  rintro e w0 ⟨rfl, hw0⟩
  have l0 : w.heap.size + 1 + 1 < w0.heap.size := by rw [hw0, size_alloc, size_alloc, size_alloc]; omega
  have k0 : Ext w w0 := hw0 ▸ ((((Ext.refl w).alloc _).alloc _).alloc _)
  have b0 : w0.cell? ⟨w.heap.size, 0, none⟩ = some (.int .i64 k1) := by rw [hw0]; go_simp
  have b1 : w0.cell? ⟨w.heap.size, 1, none⟩ = some (.int .i64 n1) := by rw [hw0]; go_simp
  have b2 : w0.cell? ⟨w.heap.size, 2, none⟩ = some (.string s1) := by rw [hw0]; go_simp
  have b3 : w0.cell? ⟨w.heap.size + 1, 0, none⟩ = some (.int .i64 k1) := by rw [hw0]; go_simp
  have b4 : w0.cell? ⟨w.heap.size + 1, 1, none⟩ = some (.int .i64 n2) := by rw [hw0]; go_simp
  have b5 : w0.cell? ⟨w.heap.size + 1, 2, none⟩ = some (.string s2) := by rw [hw0]; go_simp
  have ht0 := ht.ext k0
  clear hw0
  go_wp2_with fail
  refine (new_any 0 _ (by omega) (by omega)).mono ?_
  rintro e w1 ⟨rfl, hw1⟩
  have hb1 : HB w1 w0.heap.size (.slice none 0 0) 0 0 := hw1 ▸ Blk.new _ _ _
  have k1' : Ext w0 w1 := hw1 ▸ (Ext.refl w0).alloc _
  have l1 := hb1.lt
  clear hw1
  have y0 : w.heap.size < w1.heap.size := by omega
  have y1 : w.heap.size + 1 < w1.heap.size := by omega
  replace b0 := (k1'.cells.1 _ 0 (by omega)).trans b0
  replace b1 := (k1'.cells.1 _ 1 (by omega)).trans b1
  replace b2 := (k1'.cells.1 _ 2 (by omega)).trans b2
  replace b3 := (k1'.cells.1 _ 0 (by omega)).trans b3
  replace b4 := (k1'.cells.1 _ 1 (by omega)).trans b4
  replace b5 := (k1'.cells.1 _ 2 (by omega)).trans b5
  clear l0 l1
  go_wp2_with fail
  refine (c5 _ _ hb1 (ht0.ext k1')).mono ?_
  rintro e w2 ⟨rfl, e2⟩
  have hb2 := hb1.ext e2
  have E2 : Ext w1 w2 := e2
  have k2 : Ext w0 w2 := k1'.trans E2
  replace b0 := (E2.cells.1 _ 0 (by omega)).trans b0
  replace b1 := (E2.cells.1 _ 1 (by omega)).trans b1
  replace b2 := (E2.cells.1 _ 2 (by omega)).trans b2
  replace b3 := (E2.cells.1 _ 0 (by omega)).trans b3
  replace b4 := (E2.cells.1 _ 1 (by omega)).trans b4
  replace b5 := (E2.cells.1 _ 2 (by omega)).trans b5
  replace y0 := Nat.lt_of_lt_of_le y0 E2.le
  replace y1 := Nat.lt_of_lt_of_le y1 E2.le
  clear e2 E2 hb1 k1'
  go_wp2_with fail
  refine (c9 _ _ (hb2.alloc (.cells #[.int .i64 0, .int .i64 0, .string ⟨#[]⟩] 24)) (ht0.ext (k2.alloc (.cells #[.int .i64 0, .int .i64 0, .string ⟨#[]⟩] 24)))).mono ?_
  rintro e w3 ⟨rfl, e3⟩
  have hb3 := (hb2.alloc (.cells #[.int .i64 0, .int .i64 0, .string ⟨#[]⟩] 24)).ext e3
  have E3 : Ext w2 w3 := ((Ext.refl _).alloc _).trans e3
  have k3 : Ext w0 w3 := k2.trans E3
  replace b0 := (E3.cells.1 _ 0 (by omega)).trans b0
  replace b1 := (E3.cells.1 _ 1 (by omega)).trans b1
  replace b2 := (E3.cells.1 _ 2 (by omega)).trans b2
  replace b3 := (E3.cells.1 _ 0 (by omega)).trans b3
  replace b4 := (E3.cells.1 _ 1 (by omega)).trans b4
  replace b5 := (E3.cells.1 _ 2 (by omega)).trans b5
  replace y0 := Nat.lt_of_lt_of_le y0 E3.le
  replace y1 := Nat.lt_of_lt_of_le y1 E3.le
  clear e3 E3 hb2 k2
  go_wp2_with fail
  refine (c7 _ _ (hb3.alloc (.cells #[.int .i64 vk, .int .i64 vn, .string vs] 24)) (ht0.ext (k3.alloc (.cells #[.int .i64 vk, .int .i64 vn, .string vs] 24)))).mono ?_
  rintro e w4 ⟨rfl, e4⟩
  have hb4 := (hb3.alloc (.cells #[.int .i64 vk, .int .i64 vn, .string vs] 24)).ext e4
  have E4 : Ext w3 w4 := ((Ext.refl _).alloc _).trans e4
  have k4 : Ext w0 w4 := k3.trans E4
  replace b0 := (E4.cells.1 _ 0 (by omega)).trans b0
  replace b1 := (E4.cells.1 _ 1 (by omega)).trans b1
  replace b2 := (E4.cells.1 _ 2 (by omega)).trans b2
  replace b3 := (E4.cells.1 _ 0 (by omega)).trans b3
  replace b4 := (E4.cells.1 _ 1 (by omega)).trans b4
  replace b5 := (E4.cells.1 _ 2 (by omega)).trans b5
  replace y0 := Nat.lt_of_lt_of_le y0 E4.le
  replace y1 := Nat.lt_of_lt_of_le y1 E4.le
  clear e4 E4 hb3 k3
  go_wp2_with fail
  refine (rck_any ⟨k1, n1, s1⟩ true ca _).mono ?_
  rintro e w5 ⟨rfl, e5⟩
  have hb5 := (hb4.alloc (.cells #[.int .i64 0, .int .i64 0, .string ⟨#[]⟩] 24)).ext e5
  have E5 : Ext w4 w5 := ((Ext.refl _).alloc _).trans e5
  have k5 : Ext w0 w5 := k4.trans E5
  replace b0 := (E5.cells.1 _ 0 (by omega)).trans b0
  replace b1 := (E5.cells.1 _ 1 (by omega)).trans b1
  replace b2 := (E5.cells.1 _ 2 (by omega)).trans b2
  replace b3 := (E5.cells.1 _ 0 (by omega)).trans b3
  replace b4 := (E5.cells.1 _ 1 (by omega)).trans b4
  replace b5 := (E5.cells.1 _ 2 (by omega)).trans b5
  replace y0 := Nat.lt_of_lt_of_le y0 E5.le
  replace y1 := Nat.lt_of_lt_of_le y1 E5.le
  clear e5 E5 hb4 k4
  go_wp2_with fail
  refine (rck_any ⟨k1, n2, s2⟩ true cb _).mono ?_
  rintro e w6 ⟨rfl, e6⟩
  have hb6 := hb5.ext e6
  have E6 : Ext w5 w6 := e6
  have k6 : Ext w0 w6 := k5.trans E6
  replace b0 := (E6.cells.1 _ 0 (by omega)).trans b0
  replace b1 := (E6.cells.1 _ 1 (by omega)).trans b1
  replace b2 := (E6.cells.1 _ 2 (by omega)).trans b2
  replace b3 := (E6.cells.1 _ 0 (by omega)).trans b3
  replace b4 := (E6.cells.1 _ 1 (by omega)).trans b4
  replace b5 := (E6.cells.1 _ 2 (by omega)).trans b5
  replace y0 := Nat.lt_of_lt_of_le y0 E6.le
  replace y1 := Nat.lt_of_lt_of_le y1 E6.le
  clear e6 E6 hb5 k5
  go_wp2_with fail
  refine (known_any _ (ht0.ext k6)).mono ?_
  rintro e w7 ⟨rfl, e7⟩
  have hb7 := hb6.ext e7
  have E7 : Ext w6 w7 := e7
  have k7 : Ext w0 w7 := k6.trans E7
  replace b0 := (E7.cells.1 _ 0 (by omega)).trans b0
  replace b1 := (E7.cells.1 _ 1 (by omega)).trans b1
  replace b2 := (E7.cells.1 _ 2 (by omega)).trans b2
  replace b3 := (E7.cells.1 _ 0 (by omega)).trans b3
  replace b4 := (E7.cells.1 _ 1 (by omega)).trans b4
  replace b5 := (E7.cells.1 _ 2 (by omega)).trans b5
  replace y0 := Nat.lt_of_lt_of_le y0 E7.le
  replace y1 := Nat.lt_of_lt_of_le y1 E7.le
  clear e7 E7 hb6 k6
  go_wp2_with fail
  go_ret
  exact ⟨rfl, k0.trans k7⟩
end Go.Proofs.YtidjibghicejaaaDoor
