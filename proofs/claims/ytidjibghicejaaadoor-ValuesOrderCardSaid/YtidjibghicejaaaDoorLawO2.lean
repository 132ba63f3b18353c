/- ValuesOrder's walk, two numbers. -/
import Derived.Test.YtidjibghicejaaaDoorLawO
namespace Go.Proofs.YtidjibghicejaaaDoor
open Go.RowKit
set_option linter.unusedVariables false
set_option linter.unusedSimpArgs false

set_option maxHeartbeats 8000000 in
set_option maxRecDepth 100000 in
theorem vord_2 (n1 n2 : Int) (s1 s2 : ByteArray) (w : World) (ht : Pow w) (fa : Fits ⟨2, n1, s1⟩) (fb : Fits ⟨2, n2, s2⟩) (ca : Vl.ck ⟨2, n1, s1⟩ = true) (cb : Vl.ck ⟨2, n2, s2⟩ = true)
    (hl : (decide (500 < (s1.size : Int)) || decide (500 < (s2.size : Int))) = false) (lt eq gt : Bool) (h1 : (lt = true ∧ eq = false ∧ gt = false) ∨ (lt = false ∧ eq = true ∧ gt = false) ∨ (lt = false ∧ eq = false ∧ gt = true))
    (z5 : opZ ⟨#[60]⟩ 0 0 ⟨2, n1, s1⟩ ⟨2, n2, s2⟩ = (⟨1, b2i lt, ⟨#[]⟩⟩, ⟨#[]⟩, 0)) (z9 : opZ ⟨#[61, 61]⟩ 0 0 ⟨2, n1, s1⟩ ⟨2, n2, s2⟩ = (⟨1, b2i eq, ⟨#[]⟩⟩, ⟨#[]⟩, 0)) (z7 : opZ ⟨#[62]⟩ 0 0 ⟨2, n1, s1⟩ ⟨2, n2, s2⟩ = (⟨1, b2i gt, ⟨#[]⟩⟩, ⟨#[]⟩, 0))
    (z6 : opZ ⟨#[60, 61]⟩ 0 0 ⟨2, n1, s1⟩ ⟨2, n2, s2⟩ = (⟨1, b2i (!gt), ⟨#[]⟩⟩, ⟨#[]⟩, 0)) (z8 : opZ ⟨#[62, 61]⟩ 0 0 ⟨2, n1, s1⟩ ⟨2, n2, s2⟩ = (⟨1, b2i (!lt), ⟨#[]⟩⟩, ⟨#[]⟩, 0)) :
    Calls Tryd.prog 4 #[vv 2 n1 s1, vv 2 n2 s2] w fun e w' => e = .returned (.bool true) ∧ Ext w w' := by
  have c5 := fun g W h ht => opc ⟨#[60]⟩ ⟨2, n1, s1⟩ ⟨2, n2, s2⟩ _ _ z5 fa fb g W h ht
  have c9 := fun g W h ht => opc ⟨#[61, 61]⟩ ⟨2, n1, s1⟩ ⟨2, n2, s2⟩ _ _ z9 fa fb g W h ht
  have c7 := fun g W h ht => opc ⟨#[62]⟩ ⟨2, n1, s1⟩ ⟨2, n2, s2⟩ _ _ z7 fa fb g W h ht
  have c6 := fun g W h ht => opc ⟨#[60, 61]⟩ ⟨2, n1, s1⟩ ⟨2, n2, s2⟩ _ _ z6 fa fb g W h ht
  have c8 := fun g W h ht => opc ⟨#[62, 61]⟩ ⟨2, n1, s1⟩ ⟨2, n2, s2⟩ _ _ z8 fa fb g W h ht
  clear z5 z9 z7 z6 z8
  have za := fa.sz
  have zb := fb.sz
  have kk : (((2 : Int)) != 2) = false := rfl
  go_enter Tryd.func4, Tryd.ntmps4
  go_wp2_with fail
  refine (long_two _ ⟨2, n1, s1⟩ ⟨2, n2, s2⟩ _ _ _ (new_at (by rw [size_alloc, size_alloc]) _) (Nat.le_trans za (by decide)) (Nat.le_trans zb (by decide)) false hl).mono ?_
  rintro e w0 ⟨rfl, hw0⟩
  have l0 : w.heap.size + 1 + 1 < w0.heap.size := by rw [hw0, size_alloc, size_alloc, size_alloc]; omega
  have k0 : Ext w w0 := hw0 ▸ ((((Ext.refl w).alloc _).alloc _).alloc _)
  have b0 : w0.cell? ⟨w.heap.size, 0, none⟩ = some (.int .i64 2) := by rw [hw0]; go_simp
  have b1 : w0.cell? ⟨w.heap.size, 1, none⟩ = some (.int .i64 n1) := by rw [hw0]; go_simp
  have b2 : w0.cell? ⟨w.heap.size, 2, none⟩ = some (.string s1) := by rw [hw0]; go_simp
  have b3 : w0.cell? ⟨w.heap.size + 1, 0, none⟩ = some (.int .i64 2) := by rw [hw0]; go_simp
  have b4 : w0.cell? ⟨w.heap.size + 1, 1, none⟩ = some (.int .i64 n2) := by rw [hw0]; go_simp
  have b5 : w0.cell? ⟨w.heap.size + 1, 2, none⟩ = some (.string s2) := by rw [hw0]; go_simp
  have ht0 := ht.ext k0
  clear hw0
  go_wp2_with fail
  refine (new_any 0 _ (by omega) (by omega)).mono ?_
  rintro e w1 ⟨rfl, hw1⟩
  have hb1 : HB w1 w0.heap.size (.slice none 0 0) 0 0 := hw1 ▸ Blk.new _ _ _
  have k1 : Ext w0 w1 := hw1 ▸ (Ext.refl w0).alloc _
  have l1 := hb1.lt
  clear hw1
  have y0 : w.heap.size < w1.heap.size := by omega
  have y1 : w.heap.size + 1 < w1.heap.size := by omega
  replace b0 := (k1.cells.1 _ 0 (by omega)).trans b0
  replace b1 := (k1.cells.1 _ 1 (by omega)).trans b1
  replace b2 := (k1.cells.1 _ 2 (by omega)).trans b2
  replace b3 := (k1.cells.1 _ 0 (by omega)).trans b3
  replace b4 := (k1.cells.1 _ 1 (by omega)).trans b4
  replace b5 := (k1.cells.1 _ 2 (by omega)).trans b5
  clear l0 l1
  go_wp2_with fail
  refine (c5 _ _ hb1 (ht0.ext k1)).mono ?_
  rintro e w2 ⟨rfl, e2⟩
  have hb2 := hb1.ext e2
  have E2 : Ext w1 w2 := e2
  have k2 : Ext w0 w2 := k1.trans E2
  replace b0 := (E2.cells.1 _ 0 (by omega)).trans b0
  replace b1 := (E2.cells.1 _ 1 (by omega)).trans b1
  replace b2 := (E2.cells.1 _ 2 (by omega)).trans b2
  replace b3 := (E2.cells.1 _ 0 (by omega)).trans b3
  replace b4 := (E2.cells.1 _ 1 (by omega)).trans b4
  replace b5 := (E2.cells.1 _ 2 (by omega)).trans b5
  replace y0 := Nat.lt_of_lt_of_le y0 E2.le
  replace y1 := Nat.lt_of_lt_of_le y1 E2.le
  clear e2 E2 hb1 k1
  go_wp2_with fail
  refine (c9 _ _ (hb2.alloc (.cells #[.int .i64 1, .int .i64 (b2i lt), .string ⟨#[]⟩] 24)) (ht0.ext (k2.alloc (.cells #[.int .i64 1, .int .i64 (b2i lt), .string ⟨#[]⟩] 24)))).mono ?_
  rintro e w3 ⟨rfl, e3⟩
  have r2 : Blk w3 w2.heap.size 24 #[.int .i64 1, .int .i64 (b2i lt), .string ⟨#[]⟩] := (Blk.new _ _ _).ext e3
  have hb3 := (hb2.alloc (.cells #[.int .i64 1, .int .i64 (b2i lt), .string ⟨#[]⟩] 24)).ext e3
  have E3 : Ext w2 w3 := ((Ext.refl _).alloc _).trans e3
  have k3 : Ext w0 w3 := k2.trans E3
  replace b0 := (E3.cells.1 _ 0 (by omega)).trans b0
  replace b1 := (E3.cells.1 _ 1 (by omega)).trans b1
  replace b2 := (E3.cells.1 _ 2 (by omega)).trans b2
  replace b3 := (E3.cells.1 _ 0 (by omega)).trans b3
  replace b4 := (E3.cells.1 _ 1 (by omega)).trans b4
  replace b5 := (E3.cells.1 _ 2 (by omega)).trans b5
  replace y0 := Nat.lt_of_lt_of_le y0 E3.le
  replace y1 := Nat.lt_of_lt_of_le y1 E3.le
  clear e3 E3 hb2 k2
  go_wp2_with fail
  refine (c7 _ _ (hb3.alloc (.cells #[.int .i64 1, .int .i64 (b2i eq), .string ⟨#[]⟩] 24)) (ht0.ext (k3.alloc (.cells #[.int .i64 1, .int .i64 (b2i eq), .string ⟨#[]⟩] 24)))).mono ?_
  rintro e w4 ⟨rfl, e4⟩
  have r3 : Blk w4 w3.heap.size 24 #[.int .i64 1, .int .i64 (b2i eq), .string ⟨#[]⟩] := (Blk.new _ _ _).ext e4
  have hb4 := (hb3.alloc (.cells #[.int .i64 1, .int .i64 (b2i eq), .string ⟨#[]⟩] 24)).ext e4
  have E4 : Ext w3 w4 := ((Ext.refl _).alloc _).trans e4
  have k4 : Ext w0 w4 := k3.trans E4
  replace r2 := r2.ext E4
  replace b0 := (E4.cells.1 _ 0 (by omega)).trans b0
  replace b1 := (E4.cells.1 _ 1 (by omega)).trans b1
  replace b2 := (E4.cells.1 _ 2 (by omega)).trans b2
  replace b3 := (E4.cells.1 _ 0 (by omega)).trans b3
  replace b4 := (E4.cells.1 _ 1 (by omega)).trans b4
  replace b5 := (E4.cells.1 _ 2 (by omega)).trans b5
  replace y0 := Nat.lt_of_lt_of_le y0 E4.le
  replace y1 := Nat.lt_of_lt_of_le y1 E4.le
  clear e4 E4 hb3 k3
  go_wp2_with fail
  refine (rck_any ⟨2, n1, s1⟩ true ca _).mono ?_
  rintro e w5 ⟨rfl, e5⟩
  have r4 : Blk w5 w4.heap.size 24 #[.int .i64 1, .int .i64 (b2i gt), .string ⟨#[]⟩] := (Blk.new _ _ _).ext e5
  have hb5 := (hb4.alloc (.cells #[.int .i64 1, .int .i64 (b2i gt), .string ⟨#[]⟩] 24)).ext e5
  have E5 : Ext w4 w5 := ((Ext.refl _).alloc _).trans e5
  have k5 : Ext w0 w5 := k4.trans E5
  replace r2 := r2.ext E5
  replace r3 := r3.ext E5
  replace b0 := (E5.cells.1 _ 0 (by omega)).trans b0
  replace b1 := (E5.cells.1 _ 1 (by omega)).trans b1
  replace b2 := (E5.cells.1 _ 2 (by omega)).trans b2
  replace b3 := (E5.cells.1 _ 0 (by omega)).trans b3
  replace b4 := (E5.cells.1 _ 1 (by omega)).trans b4
  replace b5 := (E5.cells.1 _ 2 (by omega)).trans b5
  replace y0 := Nat.lt_of_lt_of_le y0 E5.le
  replace y1 := Nat.lt_of_lt_of_le y1 E5.le
  clear e5 E5 hb4 k4
  go_wp2_with fail
  refine (rck_any ⟨2, n2, s2⟩ true cb _).mono ?_
  rintro e w6 ⟨rfl, e6⟩
  have hb6 := hb5.ext e6
  have E6 : Ext w5 w6 := e6
  have k6 : Ext w0 w6 := k5.trans E6
  replace r2 := r2.ext E6
  replace r3 := r3.ext E6
  replace r4 := r4.ext E6
  replace b0 := (E6.cells.1 _ 0 (by omega)).trans b0
  replace b1 := (E6.cells.1 _ 1 (by omega)).trans b1
  replace b2 := (E6.cells.1 _ 2 (by omega)).trans b2
  replace b3 := (E6.cells.1 _ 0 (by omega)).trans b3
  replace b4 := (E6.cells.1 _ 1 (by omega)).trans b4
  replace b5 := (E6.cells.1 _ 2 (by omega)).trans b5
  replace y0 := Nat.lt_of_lt_of_le y0 E6.le
  replace y1 := Nat.lt_of_lt_of_le y1 E6.le
  clear e6 E6 hb5 k5
  rcases h1 with ⟨rfl, rfl, rfl⟩ | ⟨rfl, rfl, rfl⟩ | ⟨rfl, rfl, rfl⟩
  · have r2_0 : w6.cell? ⟨w2.heap.size, 0, none⟩ = some (.int .i64 1) := r2.cell 0
    have r2_1 : w6.cell? ⟨w2.heap.size, 1, none⟩ = some (.int .i64 (b2i true)) := r2.cell 1
    have r2_2 : w6.cell? ⟨w2.heap.size, 2, none⟩ = some (.string ⟨#[]⟩) := r2.cell 2
    have r2_l := r2.lt
    go_wp2_with fail
    refine (so_bool true _).mono ?_
    rintro e w7 ⟨rfl, e7⟩
    have hb7 := hb6.ext e7
    have E7 : Ext w6 w7 := e7
    have k7 : Ext w0 w7 := k6.trans E7
    replace r2 := r2.ext E7
    replace r3 := r3.ext E7
    replace r4 := r4.ext E7
    replace b0 := (E7.cells.1 _ 0 (by omega)).trans b0
    replace b1 := (E7.cells.1 _ 1 (by omega)).trans b1
    replace b2 := (E7.cells.1 _ 2 (by omega)).trans b2
    replace b3 := (E7.cells.1 _ 0 (by omega)).trans b3
    replace b4 := (E7.cells.1 _ 1 (by omega)).trans b4
    replace b5 := (E7.cells.1 _ 2 (by omega)).trans b5
    replace y0 := Nat.lt_of_lt_of_le y0 E7.le
    replace y1 := Nat.lt_of_lt_of_le y1 E7.le
    clear e7 E7 hb6 k6
    clear r2_0 r2_1 r2_2 r2_l
    have r3_0 : w7.cell? ⟨w3.heap.size, 0, none⟩ = some (.int .i64 1) := r3.cell 0
    have r3_1 : w7.cell? ⟨w3.heap.size, 1, none⟩ = some (.int .i64 (b2i false)) := r3.cell 1
    have r3_2 : w7.cell? ⟨w3.heap.size, 2, none⟩ = some (.string ⟨#[]⟩) := r3.cell 2
    have r3_l := r3.lt
    go_wp2_with fail
    refine (so_bool false _).mono ?_
    rintro e w8 ⟨rfl, e8⟩
    have hb8 := hb7.ext e8
    have E8 : Ext w7 w8 := e8
    have k8 : Ext w0 w8 := k7.trans E8
    replace r2 := r2.ext E8
    replace r3 := r3.ext E8
    replace r4 := r4.ext E8
    replace b0 := (E8.cells.1 _ 0 (by omega)).trans b0
    replace b1 := (E8.cells.1 _ 1 (by omega)).trans b1
    replace b2 := (E8.cells.1 _ 2 (by omega)).trans b2
    replace b3 := (E8.cells.1 _ 0 (by omega)).trans b3
    replace b4 := (E8.cells.1 _ 1 (by omega)).trans b4
    replace b5 := (E8.cells.1 _ 2 (by omega)).trans b5
    replace y0 := Nat.lt_of_lt_of_le y0 E8.le
    replace y1 := Nat.lt_of_lt_of_le y1 E8.le
    clear e8 E8 hb7 k7
    clear r3_0 r3_1 r3_2 r3_l
    have r4_0 : w8.cell? ⟨w4.heap.size, 0, none⟩ = some (.int .i64 1) := r4.cell 0
    have r4_1 : w8.cell? ⟨w4.heap.size, 1, none⟩ = some (.int .i64 (b2i false)) := r4.cell 1
    have r4_2 : w8.cell? ⟨w4.heap.size, 2, none⟩ = some (.string ⟨#[]⟩) := r4.cell 2
    have r4_l := r4.lt
    go_wp2_with fail
    refine (so_bool false _).mono ?_
    rintro e w9 ⟨rfl, e9⟩
    have hb9 := hb8.ext e9
    have E9 : Ext w8 w9 := e9
    have k9 : Ext w0 w9 := k8.trans E9
    replace r2 := r2.ext E9
    replace r3 := r3.ext E9
    replace r4 := r4.ext E9
    replace b0 := (E9.cells.1 _ 0 (by omega)).trans b0
    replace b1 := (E9.cells.1 _ 1 (by omega)).trans b1
    replace b2 := (E9.cells.1 _ 2 (by omega)).trans b2
    replace b3 := (E9.cells.1 _ 0 (by omega)).trans b3
    replace b4 := (E9.cells.1 _ 1 (by omega)).trans b4
    replace b5 := (E9.cells.1 _ 2 (by omega)).trans b5
    replace y0 := Nat.lt_of_lt_of_le y0 E9.le
    replace y1 := Nat.lt_of_lt_of_le y1 E9.le
    clear e9 E9 hb8 k8
    clear r4_0 r4_1 r4_2 r4_l
    go_wp2_with fail
    refine (c6 _ _ hb9 (ht0.ext k9)).mono ?_
    rintro e w10 ⟨rfl, e10⟩
    have hb10 := hb9.ext e10
    have E10 : Ext w9 w10 := e10
    have k10 : Ext w0 w10 := k9.trans E10
    replace r2 := r2.ext E10
    replace r3 := r3.ext E10
    replace r4 := r4.ext E10
    replace b0 := (E10.cells.1 _ 0 (by omega)).trans b0
    replace b1 := (E10.cells.1 _ 1 (by omega)).trans b1
    replace b2 := (E10.cells.1 _ 2 (by omega)).trans b2
    replace b3 := (E10.cells.1 _ 0 (by omega)).trans b3
    replace b4 := (E10.cells.1 _ 1 (by omega)).trans b4
    replace b5 := (E10.cells.1 _ 2 (by omega)).trans b5
    replace y0 := Nat.lt_of_lt_of_le y0 E10.le
    replace y1 := Nat.lt_of_lt_of_le y1 E10.le
    clear e10 E10 hb9 k9
    go_wp2_with fail
    refine (c8 _ _ (hb10.alloc (.cells #[.int .i64 1, .int .i64 (b2i true), .string ⟨#[]⟩] 24)) (ht0.ext (k10.alloc (.cells #[.int .i64 1, .int .i64 (b2i true), .string ⟨#[]⟩] 24)))).mono ?_
    rintro e w11 ⟨rfl, e11⟩
    have r10 : Blk w11 w10.heap.size 24 #[.int .i64 1, .int .i64 (b2i true), .string ⟨#[]⟩] := (Blk.new _ _ _).ext e11
    have hb11 := (hb10.alloc (.cells #[.int .i64 1, .int .i64 (b2i true), .string ⟨#[]⟩] 24)).ext e11
    have E11 : Ext w10 w11 := ((Ext.refl _).alloc _).trans e11
    have k11 : Ext w0 w11 := k10.trans E11
    replace r2 := r2.ext E11
    replace r3 := r3.ext E11
    replace r4 := r4.ext E11
    replace b0 := (E11.cells.1 _ 0 (by omega)).trans b0
    replace b1 := (E11.cells.1 _ 1 (by omega)).trans b1
    replace b2 := (E11.cells.1 _ 2 (by omega)).trans b2
    replace b3 := (E11.cells.1 _ 0 (by omega)).trans b3
    replace b4 := (E11.cells.1 _ 1 (by omega)).trans b4
    replace b5 := (E11.cells.1 _ 2 (by omega)).trans b5
    replace y0 := Nat.lt_of_lt_of_le y0 E11.le
    replace y1 := Nat.lt_of_lt_of_le y1 E11.le
    clear e11 E11 hb10 k10
    have r2_0 : w11.cell? ⟨w2.heap.size, 0, none⟩ = some (.int .i64 1) := r2.cell 0
    have r2_1 : w11.cell? ⟨w2.heap.size, 1, none⟩ = some (.int .i64 (b2i true)) := r2.cell 1
    have r2_2 : w11.cell? ⟨w2.heap.size, 2, none⟩ = some (.string ⟨#[]⟩) := r2.cell 2
    have r2_l := r2.lt
    have r4_0 : w11.cell? ⟨w4.heap.size, 0, none⟩ = some (.int .i64 1) := r4.cell 0
    have r4_1 : w11.cell? ⟨w4.heap.size, 1, none⟩ = some (.int .i64 (b2i false)) := r4.cell 1
    have r4_2 : w11.cell? ⟨w4.heap.size, 2, none⟩ = some (.string ⟨#[]⟩) := r4.cell 2
    have r4_l := r4.lt
    have r10_0 : w11.cell? ⟨w10.heap.size, 0, none⟩ = some (.int .i64 1) := r10.cell 0
    have r10_1 : w11.cell? ⟨w10.heap.size, 1, none⟩ = some (.int .i64 (b2i true)) := r10.cell 1
    have r10_2 : w11.cell? ⟨w10.heap.size, 2, none⟩ = some (.string ⟨#[]⟩) := r10.cell 2
    have r10_l := r10.lt
    go_wp2_with fail
    refine wp_region_ext (by kernel_rfl) (by kernel_rfl) ?_
    repeat (
      refine wpQuiet_step (fun K hK => ?_)
      first
        | (apply ext_no
           focus (go_simp; done))
        | (apply ext_yes
           focus (go_simp; done)
           focus (
             intro wq hq
             have q1 := (Ext.cells hq).1
             have q2 := (Ext.cells hq).2
             go_simp
             first | exact rfl | (first | (go_at_call 15; exact Calls.ext_of hq (so_bool _ _)) | (go_at_call 8; exact Calls.ext_of hq (known_any _ (ht0.ext ((k11.alloc (.cells #[.int .i64 1, .int .i64 (b2i false), .string ⟨#[]⟩] 24)).trans hq)))))))
      refine hK _ ?_
      clear hK K
      go_simp)
    refine wpQuiet_nil ?_
    intro we hwe
    go_wp2
    go_ret
    exact ⟨rfl, (k0.trans (k11.alloc (.cells #[.int .i64 1, .int .i64 (b2i false), .string ⟨#[]⟩] 24))).trans hwe⟩
  · have r2_0 : w6.cell? ⟨w2.heap.size, 0, none⟩ = some (.int .i64 1) := r2.cell 0
    have r2_1 : w6.cell? ⟨w2.heap.size, 1, none⟩ = some (.int .i64 (b2i false)) := r2.cell 1
    have r2_2 : w6.cell? ⟨w2.heap.size, 2, none⟩ = some (.string ⟨#[]⟩) := r2.cell 2
    have r2_l := r2.lt
    go_wp2_with fail
    refine (so_bool false _).mono ?_
    rintro e w7 ⟨rfl, e7⟩
    have hb7 := hb6.ext e7
    have E7 : Ext w6 w7 := e7
    have k7 : Ext w0 w7 := k6.trans E7
    replace r2 := r2.ext E7
    replace r3 := r3.ext E7
    replace r4 := r4.ext E7
    replace b0 := (E7.cells.1 _ 0 (by omega)).trans b0
    replace b1 := (E7.cells.1 _ 1 (by omega)).trans b1
    replace b2 := (E7.cells.1 _ 2 (by omega)).trans b2
    replace b3 := (E7.cells.1 _ 0 (by omega)).trans b3
    replace b4 := (E7.cells.1 _ 1 (by omega)).trans b4
    replace b5 := (E7.cells.1 _ 2 (by omega)).trans b5
    replace y0 := Nat.lt_of_lt_of_le y0 E7.le
    replace y1 := Nat.lt_of_lt_of_le y1 E7.le
    clear e7 E7 hb6 k6
    clear r2_0 r2_1 r2_2 r2_l
    have r3_0 : w7.cell? ⟨w3.heap.size, 0, none⟩ = some (.int .i64 1) := r3.cell 0
    have r3_1 : w7.cell? ⟨w3.heap.size, 1, none⟩ = some (.int .i64 (b2i true)) := r3.cell 1
    have r3_2 : w7.cell? ⟨w3.heap.size, 2, none⟩ = some (.string ⟨#[]⟩) := r3.cell 2
    have r3_l := r3.lt
    go_wp2_with fail
    refine (so_bool true _).mono ?_
    rintro e w8 ⟨rfl, e8⟩
    have hb8 := hb7.ext e8
    have E8 : Ext w7 w8 := e8
    have k8 : Ext w0 w8 := k7.trans E8
    replace r2 := r2.ext E8
    replace r3 := r3.ext E8
    replace r4 := r4.ext E8
    replace b0 := (E8.cells.1 _ 0 (by omega)).trans b0
    replace b1 := (E8.cells.1 _ 1 (by omega)).trans b1
    replace b2 := (E8.cells.1 _ 2 (by omega)).trans b2
    replace b3 := (E8.cells.1 _ 0 (by omega)).trans b3
    replace b4 := (E8.cells.1 _ 1 (by omega)).trans b4
    replace b5 := (E8.cells.1 _ 2 (by omega)).trans b5
    replace y0 := Nat.lt_of_lt_of_le y0 E8.le
    replace y1 := Nat.lt_of_lt_of_le y1 E8.le
    clear e8 E8 hb7 k7
    clear r3_0 r3_1 r3_2 r3_l
    have r4_0 : w8.cell? ⟨w4.heap.size, 0, none⟩ = some (.int .i64 1) := r4.cell 0
    have r4_1 : w8.cell? ⟨w4.heap.size, 1, none⟩ = some (.int .i64 (b2i false)) := r4.cell 1
    have r4_2 : w8.cell? ⟨w4.heap.size, 2, none⟩ = some (.string ⟨#[]⟩) := r4.cell 2
    have r4_l := r4.lt
    go_wp2_with fail
    refine (so_bool false _).mono ?_
    rintro e w9 ⟨rfl, e9⟩
    have hb9 := hb8.ext e9
    have E9 : Ext w8 w9 := e9
    have k9 : Ext w0 w9 := k8.trans E9
    replace r2 := r2.ext E9
    replace r3 := r3.ext E9
    replace r4 := r4.ext E9
    replace b0 := (E9.cells.1 _ 0 (by omega)).trans b0
    replace b1 := (E9.cells.1 _ 1 (by omega)).trans b1
    replace b2 := (E9.cells.1 _ 2 (by omega)).trans b2
    replace b3 := (E9.cells.1 _ 0 (by omega)).trans b3
    replace b4 := (E9.cells.1 _ 1 (by omega)).trans b4
    replace b5 := (E9.cells.1 _ 2 (by omega)).trans b5
    replace y0 := Nat.lt_of_lt_of_le y0 E9.le
    replace y1 := Nat.lt_of_lt_of_le y1 E9.le
    clear e9 E9 hb8 k8
    clear r4_0 r4_1 r4_2 r4_l
    go_wp2_with fail
    refine (c6 _ _ hb9 (ht0.ext k9)).mono ?_
    rintro e w10 ⟨rfl, e10⟩
    have hb10 := hb9.ext e10
    have E10 : Ext w9 w10 := e10
    have k10 : Ext w0 w10 := k9.trans E10
    replace r2 := r2.ext E10
    replace r3 := r3.ext E10
    replace r4 := r4.ext E10
    replace b0 := (E10.cells.1 _ 0 (by omega)).trans b0
    replace b1 := (E10.cells.1 _ 1 (by omega)).trans b1
    replace b2 := (E10.cells.1 _ 2 (by omega)).trans b2
    replace b3 := (E10.cells.1 _ 0 (by omega)).trans b3
    replace b4 := (E10.cells.1 _ 1 (by omega)).trans b4
    replace b5 := (E10.cells.1 _ 2 (by omega)).trans b5
    replace y0 := Nat.lt_of_lt_of_le y0 E10.le
    replace y1 := Nat.lt_of_lt_of_le y1 E10.le
    clear e10 E10 hb9 k9
    go_wp2_with fail
    refine (c8 _ _ (hb10.alloc (.cells #[.int .i64 1, .int .i64 (b2i true), .string ⟨#[]⟩] 24)) (ht0.ext (k10.alloc (.cells #[.int .i64 1, .int .i64 (b2i true), .string ⟨#[]⟩] 24)))).mono ?_
    rintro e w11 ⟨rfl, e11⟩
    have r10 : Blk w11 w10.heap.size 24 #[.int .i64 1, .int .i64 (b2i true), .string ⟨#[]⟩] := (Blk.new _ _ _).ext e11
    have hb11 := (hb10.alloc (.cells #[.int .i64 1, .int .i64 (b2i true), .string ⟨#[]⟩] 24)).ext e11
    have E11 : Ext w10 w11 := ((Ext.refl _).alloc _).trans e11
    have k11 : Ext w0 w11 := k10.trans E11
    replace r2 := r2.ext E11
    replace r3 := r3.ext E11
    replace r4 := r4.ext E11
    replace b0 := (E11.cells.1 _ 0 (by omega)).trans b0
    replace b1 := (E11.cells.1 _ 1 (by omega)).trans b1
    replace b2 := (E11.cells.1 _ 2 (by omega)).trans b2
    replace b3 := (E11.cells.1 _ 0 (by omega)).trans b3
    replace b4 := (E11.cells.1 _ 1 (by omega)).trans b4
    replace b5 := (E11.cells.1 _ 2 (by omega)).trans b5
    replace y0 := Nat.lt_of_lt_of_le y0 E11.le
    replace y1 := Nat.lt_of_lt_of_le y1 E11.le
    clear e11 E11 hb10 k10
    have r2_0 : w11.cell? ⟨w2.heap.size, 0, none⟩ = some (.int .i64 1) := r2.cell 0
    have r2_1 : w11.cell? ⟨w2.heap.size, 1, none⟩ = some (.int .i64 (b2i false)) := r2.cell 1
    have r2_2 : w11.cell? ⟨w2.heap.size, 2, none⟩ = some (.string ⟨#[]⟩) := r2.cell 2
    have r2_l := r2.lt
    have r4_0 : w11.cell? ⟨w4.heap.size, 0, none⟩ = some (.int .i64 1) := r4.cell 0
    have r4_1 : w11.cell? ⟨w4.heap.size, 1, none⟩ = some (.int .i64 (b2i false)) := r4.cell 1
    have r4_2 : w11.cell? ⟨w4.heap.size, 2, none⟩ = some (.string ⟨#[]⟩) := r4.cell 2
    have r4_l := r4.lt
    have r10_0 : w11.cell? ⟨w10.heap.size, 0, none⟩ = some (.int .i64 1) := r10.cell 0
    have r10_1 : w11.cell? ⟨w10.heap.size, 1, none⟩ = some (.int .i64 (b2i true)) := r10.cell 1
    have r10_2 : w11.cell? ⟨w10.heap.size, 2, none⟩ = some (.string ⟨#[]⟩) := r10.cell 2
    have r10_l := r10.lt
    go_wp2_with fail
    refine wp_region_ext (by kernel_rfl) (by kernel_rfl) ?_
    repeat (
      refine wpQuiet_step (fun K hK => ?_)
      first
        | (apply ext_no
           focus (go_simp; done))
        | (apply ext_yes
           focus (go_simp; done)
           focus (
             intro wq hq
             have q1 := (Ext.cells hq).1
             have q2 := (Ext.cells hq).2
             go_simp
             first | exact rfl | (first | (go_at_call 15; exact Calls.ext_of hq (so_bool _ _)) | (go_at_call 8; exact Calls.ext_of hq (known_any _ (ht0.ext ((k11.alloc (.cells #[.int .i64 1, .int .i64 (b2i true), .string ⟨#[]⟩] 24)).trans hq)))))))
      refine hK _ ?_
      clear hK K
      go_simp)
    refine wpQuiet_nil ?_
    intro we hwe
    go_wp2
    go_ret
    exact ⟨rfl, (k0.trans (k11.alloc (.cells #[.int .i64 1, .int .i64 (b2i true), .string ⟨#[]⟩] 24))).trans hwe⟩
  · have r2_0 : w6.cell? ⟨w2.heap.size, 0, none⟩ = some (.int .i64 1) := r2.cell 0
    have r2_1 : w6.cell? ⟨w2.heap.size, 1, none⟩ = some (.int .i64 (b2i false)) := r2.cell 1
    have r2_2 : w6.cell? ⟨w2.heap.size, 2, none⟩ = some (.string ⟨#[]⟩) := r2.cell 2
    have r2_l := r2.lt
    go_wp2_with fail
    refine (so_bool false _).mono ?_
    rintro e w7 ⟨rfl, e7⟩
    have hb7 := hb6.ext e7
    have E7 : Ext w6 w7 := e7
    have k7 : Ext w0 w7 := k6.trans E7
    replace r2 := r2.ext E7
    replace r3 := r3.ext E7
    replace r4 := r4.ext E7
    replace b0 := (E7.cells.1 _ 0 (by omega)).trans b0
    replace b1 := (E7.cells.1 _ 1 (by omega)).trans b1
    replace b2 := (E7.cells.1 _ 2 (by omega)).trans b2
    replace b3 := (E7.cells.1 _ 0 (by omega)).trans b3
    replace b4 := (E7.cells.1 _ 1 (by omega)).trans b4
    replace b5 := (E7.cells.1 _ 2 (by omega)).trans b5
    replace y0 := Nat.lt_of_lt_of_le y0 E7.le
    replace y1 := Nat.lt_of_lt_of_le y1 E7.le
    clear e7 E7 hb6 k6
    clear r2_0 r2_1 r2_2 r2_l
    have r3_0 : w7.cell? ⟨w3.heap.size, 0, none⟩ = some (.int .i64 1) := r3.cell 0
    have r3_1 : w7.cell? ⟨w3.heap.size, 1, none⟩ = some (.int .i64 (b2i false)) := r3.cell 1
    have r3_2 : w7.cell? ⟨w3.heap.size, 2, none⟩ = some (.string ⟨#[]⟩) := r3.cell 2
    have r3_l := r3.lt
    go_wp2_with fail
    refine (so_bool false _).mono ?_
    rintro e w8 ⟨rfl, e8⟩
    have hb8 := hb7.ext e8
    have E8 : Ext w7 w8 := e8
    have k8 : Ext w0 w8 := k7.trans E8
    replace r2 := r2.ext E8
    replace r3 := r3.ext E8
    replace r4 := r4.ext E8
    replace b0 := (E8.cells.1 _ 0 (by omega)).trans b0
    replace b1 := (E8.cells.1 _ 1 (by omega)).trans b1
    replace b2 := (E8.cells.1 _ 2 (by omega)).trans b2
    replace b3 := (E8.cells.1 _ 0 (by omega)).trans b3
    replace b4 := (E8.cells.1 _ 1 (by omega)).trans b4
    replace b5 := (E8.cells.1 _ 2 (by omega)).trans b5
    replace y0 := Nat.lt_of_lt_of_le y0 E8.le
    replace y1 := Nat.lt_of_lt_of_le y1 E8.le
    clear e8 E8 hb7 k7
    clear r3_0 r3_1 r3_2 r3_l
    have r4_0 : w8.cell? ⟨w4.heap.size, 0, none⟩ = some (.int .i64 1) := r4.cell 0
    have r4_1 : w8.cell? ⟨w4.heap.size, 1, none⟩ = some (.int .i64 (b2i true)) := r4.cell 1
    have r4_2 : w8.cell? ⟨w4.heap.size, 2, none⟩ = some (.string ⟨#[]⟩) := r4.cell 2
    have r4_l := r4.lt
    go_wp2_with fail
    refine (so_bool true _).mono ?_
    rintro e w9 ⟨rfl, e9⟩
    have hb9 := hb8.ext e9
    have E9 : Ext w8 w9 := e9
    have k9 : Ext w0 w9 := k8.trans E9
    replace r2 := r2.ext E9
    replace r3 := r3.ext E9
    replace r4 := r4.ext E9
    replace b0 := (E9.cells.1 _ 0 (by omega)).trans b0
    replace b1 := (E9.cells.1 _ 1 (by omega)).trans b1
    replace b2 := (E9.cells.1 _ 2 (by omega)).trans b2
    replace b3 := (E9.cells.1 _ 0 (by omega)).trans b3
    replace b4 := (E9.cells.1 _ 1 (by omega)).trans b4
    replace b5 := (E9.cells.1 _ 2 (by omega)).trans b5
    replace y0 := Nat.lt_of_lt_of_le y0 E9.le
    replace y1 := Nat.lt_of_lt_of_le y1 E9.le
    clear e9 E9 hb8 k8
    clear r4_0 r4_1 r4_2 r4_l
    go_wp2_with fail
    refine (c6 _ _ hb9 (ht0.ext k9)).mono ?_
    rintro e w10 ⟨rfl, e10⟩
    have hb10 := hb9.ext e10
    have E10 : Ext w9 w10 := e10
    have k10 : Ext w0 w10 := k9.trans E10
    replace r2 := r2.ext E10
    replace r3 := r3.ext E10
    replace r4 := r4.ext E10
    replace b0 := (E10.cells.1 _ 0 (by omega)).trans b0
    replace b1 := (E10.cells.1 _ 1 (by omega)).trans b1
    replace b2 := (E10.cells.1 _ 2 (by omega)).trans b2
    replace b3 := (E10.cells.1 _ 0 (by omega)).trans b3
    replace b4 := (E10.cells.1 _ 1 (by omega)).trans b4
    replace b5 := (E10.cells.1 _ 2 (by omega)).trans b5
    replace y0 := Nat.lt_of_lt_of_le y0 E10.le
    replace y1 := Nat.lt_of_lt_of_le y1 E10.le
    clear e10 E10 hb9 k9
    go_wp2_with fail
    refine (c8 _ _ (hb10.alloc (.cells #[.int .i64 1, .int .i64 (b2i false), .string ⟨#[]⟩] 24)) (ht0.ext (k10.alloc (.cells #[.int .i64 1, .int .i64 (b2i false), .string ⟨#[]⟩] 24)))).mono ?_
    rintro e w11 ⟨rfl, e11⟩
    have r10 : Blk w11 w10.heap.size 24 #[.int .i64 1, .int .i64 (b2i false), .string ⟨#[]⟩] := (Blk.new _ _ _).ext e11
    have hb11 := (hb10.alloc (.cells #[.int .i64 1, .int .i64 (b2i false), .string ⟨#[]⟩] 24)).ext e11
    have E11 : Ext w10 w11 := ((Ext.refl _).alloc _).trans e11
    have k11 : Ext w0 w11 := k10.trans E11
    replace r2 := r2.ext E11
    replace r3 := r3.ext E11
    replace r4 := r4.ext E11
    replace b0 := (E11.cells.1 _ 0 (by omega)).trans b0
    replace b1 := (E11.cells.1 _ 1 (by omega)).trans b1
    replace b2 := (E11.cells.1 _ 2 (by omega)).trans b2
    replace b3 := (E11.cells.1 _ 0 (by omega)).trans b3
    replace b4 := (E11.cells.1 _ 1 (by omega)).trans b4
    replace b5 := (E11.cells.1 _ 2 (by omega)).trans b5
    replace y0 := Nat.lt_of_lt_of_le y0 E11.le
    replace y1 := Nat.lt_of_lt_of_le y1 E11.le
    clear e11 E11 hb10 k10
    have r2_0 : w11.cell? ⟨w2.heap.size, 0, none⟩ = some (.int .i64 1) := r2.cell 0
    have r2_1 : w11.cell? ⟨w2.heap.size, 1, none⟩ = some (.int .i64 (b2i false)) := r2.cell 1
    have r2_2 : w11.cell? ⟨w2.heap.size, 2, none⟩ = some (.string ⟨#[]⟩) := r2.cell 2
    have r2_l := r2.lt
    have r4_0 : w11.cell? ⟨w4.heap.size, 0, none⟩ = some (.int .i64 1) := r4.cell 0
    have r4_1 : w11.cell? ⟨w4.heap.size, 1, none⟩ = some (.int .i64 (b2i true)) := r4.cell 1
    have r4_2 : w11.cell? ⟨w4.heap.size, 2, none⟩ = some (.string ⟨#[]⟩) := r4.cell 2
    have r4_l := r4.lt
    have r10_0 : w11.cell? ⟨w10.heap.size, 0, none⟩ = some (.int .i64 1) := r10.cell 0
    have r10_1 : w11.cell? ⟨w10.heap.size, 1, none⟩ = some (.int .i64 (b2i false)) := r10.cell 1
    have r10_2 : w11.cell? ⟨w10.heap.size, 2, none⟩ = some (.string ⟨#[]⟩) := r10.cell 2
    have r10_l := r10.lt
    go_wp2_with fail
    refine wp_region_ext (by kernel_rfl) (by kernel_rfl) ?_
    repeat (
      refine wpQuiet_step (fun K hK => ?_)
      first
        | (apply ext_no
           focus (go_simp; done))
        | (apply ext_yes
           focus (go_simp; done)
           focus (
             intro wq hq
             have q1 := (Ext.cells hq).1
             have q2 := (Ext.cells hq).2
             go_simp
             first | exact rfl | (first | (go_at_call 15; exact Calls.ext_of hq (so_bool _ _)) | (go_at_call 8; exact Calls.ext_of hq (known_any _ (ht0.ext ((k11.alloc (.cells #[.int .i64 1, .int .i64 (b2i true), .string ⟨#[]⟩] 24)).trans hq)))))))
      refine hK _ ?_
      clear hK K
      go_simp)
    refine wpQuiet_nil ?_
    intro we hwe
    go_wp2
    go_ret
    exact ⟨rfl, (k0.trans (k11.alloc (.cells #[.int .i64 1, .int .i64 (b2i true), .string ⟨#[]⟩] 24))).trans hwe⟩
end Go.Proofs.YtidjibghicejaaaDoor
