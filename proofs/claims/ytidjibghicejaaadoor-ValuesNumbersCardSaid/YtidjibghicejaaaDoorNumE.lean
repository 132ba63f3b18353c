/- ValuesNumbers' walk, a quotient. -/
import Derived.Test.YtidjibghicejaaaDoorNumO
import Derived.Deep.DeepCutAuto
namespace Go.Proofs.YtidjibghicejaaaDoor
open Go.RowKit
set_option linter.unusedVariables false
set_option linter.unusedSimpArgs false

set_option maxHeartbeats 8000000 in
set_option maxRecDepth 100000 in
theorem num_n0_0 (a b : Int) (w : World) (ht : Pow w) (ha : -9223372036854775808 ≤ a ∧ a ≤ 9223372036854775807) (hb : -9223372036854775808 ≤ b ∧ b ≤ 9223372036854775807) (h0 : (b == 0) = false) (Q R : Int) (hQ : -9223372036854775808 ≤ Q ∧ Q ≤ 9223372036854775807) (hR : -9223372036854775808 ≤ R ∧ R ≤ 9223372036854775807) (hqr : Q * b + R = a) (hsg : R = 0 ∨ decide (R < 0) = decide (b < 0)) (q1 : numV 47 a b = I Q) (q2 : numW 47 a b = ⟨#[]⟩) (r1 : numV 37 a b = I R) (r2 : numW 37 a b = ⟨#[]⟩) (hp : ¬ (-9223372036854775808 ≤ Q * b ∧ Q * b ≤ 9223372036854775807)) (hd : ¬ (-9223372036854775808 ≤ a - b ∧ a - b ≤ 9223372036854775807)) :
    Calls Tryd.prog 5 #[.int .i64 a, .int .i64 b] w fun e w' => e = .returned (.bool true) ∧ Ext w w' := by
  have cq := fun g W h ht => opc ⟨#[47]⟩ (I a) (I b) (I Q) ⟨#[]⟩ (by rw [z_quo, q1, q2]) (fits_I ha) (fits_I hb) g W h ht
  have cr := fun g W h ht => opc ⟨#[37]⟩ (I a) (I b) (I R) ⟨#[]⟩ (by rw [z_rem, r1, r2]) (fits_I ha) (fits_I hb) g W h ht
  have cp := fun g W h ht => opc ⟨#[42]⟩ (I Q) (I b) .zero sOver (by rw [z_mul, (fit_out hp).1, (fit_out hp).2]) (fits_I hQ) (fits_I hb) g W h ht
  have cs := fun g W h ht => opc ⟨#[43]⟩ .zero (I R) .zero sType (z_add0 R) ⟨by decide, by decide, by decide⟩ (fits_I hR) g W h ht
  have cd := fun g W h ht => opc ⟨#[45]⟩ (I a) (I b) .zero sOver (by rw [z_sub, (fit_out hd).1, (fit_out hd).2]) (fits_I ha) (fits_I hb) g W h ht
  obtain ⟨M, hM⟩ : ∃ M, fitL (-a) = M := ⟨_, rfl⟩
  obtain ⟨MW, hW⟩ : ∃ MW, fitW (-a) = MW := ⟨_, rfl⟩
  have cm := fun g W h ht => opc ⟨#[45]⟩ (I 0) (I a) M MW (by rw [z_sub, Int.zero_sub, hM, hW]) ⟨by decide, by decide, by decide⟩ (fits_I ha) g W h ht
  have cn := fun W => neg_any a ha W
  rw [hM, hW] at cn
  clear hM hW
  obtain ⟨mk, mn, ms⟩ := M
  have s1 : (R == 0) = (R == 0) := rfl
  cases hRz : (R != 0)
  · have hR0 : (R == 0) = true := by simpa using hRz
    have t1 : sOver.toList = [111, 118, 101, 114] := by rw [Lib.toList_data]; rfl
    have t2 : sType.toList = [116, 121, 112, 101] := by rw [Lib.toList_data]; rfl
    clear q1 q2 r1 r2 hp hqr hQ hR hd hsg s1 ha hb
    go_enter Tryd.func5, Tryd.ntmps5
    go_wp2_with fail
    refine (new_any 0 _ (by omega) (by omega)).mono ?_
    rintro e w1 ⟨rfl, hw1⟩
    have hb1 : HB w1 w.heap.size (.slice none 0 0) 0 0 := hw1 ▸ Blk.new _ _ _
    have k1 : Ext w w1 := hw1 ▸ (Ext.refl w).alloc _
    clear hw1
    go_wp2_with fail
    refine (int_any a _).mono ?_
    rintro e w2 ⟨rfl, e2⟩
    have hb2 := hb1.ext e2
    have k2 := k1.trans e2
    clear e2 hb1 k1
    go_wp2_with fail
    refine (int_any b _).mono ?_
    rintro e w3 ⟨rfl, e3⟩
    have hb3 := hb2.ext e3
    have k3 := k2.trans e3
    clear e3 hb2 k2
    go_wp2_with fail
    refine (cq _ _ ((hb3.alloc (.cells #[.int .i64 2, .int .i64 a, .string ⟨#[]⟩] 24)).alloc (.cells #[.int .i64 2, .int .i64 b, .string ⟨#[]⟩] 24)) (ht.ext ((k3.alloc (.cells #[.int .i64 2, .int .i64 a, .string ⟨#[]⟩] 24)).alloc (.cells #[.int .i64 2, .int .i64 b, .string ⟨#[]⟩] 24)))).mono ?_
    rintro e w4 ⟨rfl, e4⟩
    have hb4 := ((hb3.alloc (.cells #[.int .i64 2, .int .i64 a, .string ⟨#[]⟩] 24)).alloc (.cells #[.int .i64 2, .int .i64 b, .string ⟨#[]⟩] 24)).ext e4
    have k4 := ((k3.alloc (.cells #[.int .i64 2, .int .i64 a, .string ⟨#[]⟩] 24)).alloc (.cells #[.int .i64 2, .int .i64 b, .string ⟨#[]⟩] 24)).trans e4
    have bx : Blk w4 w3.heap.size 24 #[.int .i64 2, .int .i64 a, .string ⟨#[]⟩] := ((Blk.new w3 24 #[.int .i64 2, .int .i64 a, .string ⟨#[]⟩]).alloc (.cells #[.int .i64 2, .int .i64 b, .string ⟨#[]⟩] 24)).ext e4
    have by' : Blk w4 (w3.heap.size + 1) 24 #[.int .i64 2, .int .i64 b, .string ⟨#[]⟩] := by have := (Blk.new (w3.alloc (.cells #[.int .i64 2, .int .i64 a, .string ⟨#[]⟩] 24)) 24 #[.int .i64 2, .int .i64 b, .string ⟨#[]⟩]).ext e4; rwa [size_alloc] at this
    clear e4 hb3 k3
    have bx_0 : w4.cell? ⟨w3.heap.size, 0, none⟩ = some (.int .i64 2) := bx.cell 0
    have bx_1 : w4.cell? ⟨w3.heap.size, 1, none⟩ = some (.int .i64 a) := bx.cell 1
    have bx_2 : w4.cell? ⟨w3.heap.size, 2, none⟩ = some (.string ⟨#[]⟩) := bx.cell 2
    have bx_l := bx.lt
    have by'_0 : w4.cell? ⟨w3.heap.size + 1, 0, none⟩ = some (.int .i64 2) := by'.cell 0
    have by'_1 : w4.cell? ⟨w3.heap.size + 1, 1, none⟩ = some (.int .i64 b) := by'.cell 1
    have by'_2 : w4.cell? ⟨w3.heap.size + 1, 2, none⟩ = some (.string ⟨#[]⟩) := by'.cell 2
    have by'_l := by'.lt
    go_wp2_with fail
    refine (cr _ _ (hb4.alloc (.cells #[.int .i64 2, .int .i64 Q, .string ⟨#[]⟩] 24)) (ht.ext (k4.alloc (.cells #[.int .i64 2, .int .i64 Q, .string ⟨#[]⟩] 24)))).mono ?_
    rintro e w5 ⟨rfl, e5⟩
    have hb5 := (hb4.alloc (.cells #[.int .i64 2, .int .i64 Q, .string ⟨#[]⟩] 24)).ext e5
    have k5 := (k4.alloc (.cells #[.int .i64 2, .int .i64 Q, .string ⟨#[]⟩] 24)).trans e5
    replace bx := (bx.alloc (.cells #[.int .i64 2, .int .i64 Q, .string ⟨#[]⟩] 24)).ext e5
    replace by' := (by'.alloc (.cells #[.int .i64 2, .int .i64 Q, .string ⟨#[]⟩] 24)).ext e5
    have bq : Blk w5 w4.heap.size 24 #[.int .i64 2, .int .i64 Q, .string ⟨#[]⟩] := (Blk.new w4 24 #[.int .i64 2, .int .i64 Q, .string ⟨#[]⟩]).ext e5
    clear bx_0 bx_1 bx_2 bx_l
    clear by'_0 by'_1 by'_2 by'_l
    clear e5 hb4 k4
    have bx_0 : w5.cell? ⟨w3.heap.size, 0, none⟩ = some (.int .i64 2) := bx.cell 0
    have bx_1 : w5.cell? ⟨w3.heap.size, 1, none⟩ = some (.int .i64 a) := bx.cell 1
    have bx_2 : w5.cell? ⟨w3.heap.size, 2, none⟩ = some (.string ⟨#[]⟩) := bx.cell 2
    have bx_l := bx.lt
    have by'_0 : w5.cell? ⟨w3.heap.size + 1, 0, none⟩ = some (.int .i64 2) := by'.cell 0
    have by'_1 : w5.cell? ⟨w3.heap.size + 1, 1, none⟩ = some (.int .i64 b) := by'.cell 1
    have by'_2 : w5.cell? ⟨w3.heap.size + 1, 2, none⟩ = some (.string ⟨#[]⟩) := by'.cell 2
    have by'_l := by'.lt
    have bq_0 : w5.cell? ⟨w4.heap.size, 0, none⟩ = some (.int .i64 2) := bq.cell 0
    have bq_1 : w5.cell? ⟨w4.heap.size, 1, none⟩ = some (.int .i64 Q) := bq.cell 1
    have bq_2 : w5.cell? ⟨w4.heap.size, 2, none⟩ = some (.string ⟨#[]⟩) := bq.cell 2
    have bq_l := bq.lt
    go_wp2_with fail
    refine (cp _ _ (hb5.alloc (.cells #[.int .i64 2, .int .i64 R, .string ⟨#[]⟩] 24)) (ht.ext (k5.alloc (.cells #[.int .i64 2, .int .i64 R, .string ⟨#[]⟩] 24)))).mono ?_
    rintro e w6 ⟨rfl, e6⟩
    have hb6 := (hb5.alloc (.cells #[.int .i64 2, .int .i64 R, .string ⟨#[]⟩] 24)).ext e6
    have k6 := (k5.alloc (.cells #[.int .i64 2, .int .i64 R, .string ⟨#[]⟩] 24)).trans e6
    replace bx := (bx.alloc (.cells #[.int .i64 2, .int .i64 R, .string ⟨#[]⟩] 24)).ext e6
    replace by' := (by'.alloc (.cells #[.int .i64 2, .int .i64 R, .string ⟨#[]⟩] 24)).ext e6
    replace bq := (bq.alloc (.cells #[.int .i64 2, .int .i64 R, .string ⟨#[]⟩] 24)).ext e6
    have br : Blk w6 w5.heap.size 24 #[.int .i64 2, .int .i64 R, .string ⟨#[]⟩] := (Blk.new w5 24 #[.int .i64 2, .int .i64 R, .string ⟨#[]⟩]).ext e6
    clear bx_0 bx_1 bx_2 bx_l
    clear by'_0 by'_1 by'_2 by'_l
    clear bq_0 bq_1 bq_2 bq_l
    clear e6 hb5 k5
    have bx_0 : w6.cell? ⟨w3.heap.size, 0, none⟩ = some (.int .i64 2) := bx.cell 0
    have bx_1 : w6.cell? ⟨w3.heap.size, 1, none⟩ = some (.int .i64 a) := bx.cell 1
    have bx_2 : w6.cell? ⟨w3.heap.size, 2, none⟩ = some (.string ⟨#[]⟩) := bx.cell 2
    have bx_l := bx.lt
    have by'_0 : w6.cell? ⟨w3.heap.size + 1, 0, none⟩ = some (.int .i64 2) := by'.cell 0
    have by'_1 : w6.cell? ⟨w3.heap.size + 1, 1, none⟩ = some (.int .i64 b) := by'.cell 1
    have by'_2 : w6.cell? ⟨w3.heap.size + 1, 2, none⟩ = some (.string ⟨#[]⟩) := by'.cell 2
    have by'_l := by'.lt
    have br_0 : w6.cell? ⟨w5.heap.size, 0, none⟩ = some (.int .i64 2) := br.cell 0
    have br_1 : w6.cell? ⟨w5.heap.size, 1, none⟩ = some (.int .i64 R) := br.cell 1
    have br_2 : w6.cell? ⟨w5.heap.size, 2, none⟩ = some (.string ⟨#[]⟩) := br.cell 2
    have br_l := br.lt
    go_wp2_with fail
    refine (cs _ _ (hb6.alloc (.cells #[.int .i64 0, .int .i64 0, .string ⟨#[]⟩] 24)) (ht.ext (k6.alloc (.cells #[.int .i64 0, .int .i64 0, .string ⟨#[]⟩] 24)))).mono ?_
    rintro e w7 ⟨rfl, e7⟩
    have hb7 := (hb6.alloc (.cells #[.int .i64 0, .int .i64 0, .string ⟨#[]⟩] 24)).ext e7
    have k7 := (k6.alloc (.cells #[.int .i64 0, .int .i64 0, .string ⟨#[]⟩] 24)).trans e7
    replace bx := (bx.alloc (.cells #[.int .i64 0, .int .i64 0, .string ⟨#[]⟩] 24)).ext e7
    replace by' := (by'.alloc (.cells #[.int .i64 0, .int .i64 0, .string ⟨#[]⟩] 24)).ext e7
    replace bq := (bq.alloc (.cells #[.int .i64 0, .int .i64 0, .string ⟨#[]⟩] 24)).ext e7
    replace br := (br.alloc (.cells #[.int .i64 0, .int .i64 0, .string ⟨#[]⟩] 24)).ext e7
    have bp : Blk w7 w6.heap.size 24 #[.int .i64 0, .int .i64 0, .string ⟨#[]⟩] := (Blk.new w6 24 #[.int .i64 0, .int .i64 0, .string ⟨#[]⟩]).ext e7
    clear bx_0 bx_1 bx_2 bx_l
    clear by'_0 by'_1 by'_2 by'_l
    clear br_0 br_1 br_2 br_l
    clear e7 hb6 k6
    have bx_0 : w7.cell? ⟨w3.heap.size, 0, none⟩ = some (.int .i64 2) := bx.cell 0
    have bx_1 : w7.cell? ⟨w3.heap.size, 1, none⟩ = some (.int .i64 a) := bx.cell 1
    have bx_2 : w7.cell? ⟨w3.heap.size, 2, none⟩ = some (.string ⟨#[]⟩) := bx.cell 2
    have bx_l := bx.lt
    have by'_0 : w7.cell? ⟨w3.heap.size + 1, 0, none⟩ = some (.int .i64 2) := by'.cell 0
    have by'_1 : w7.cell? ⟨w3.heap.size + 1, 1, none⟩ = some (.int .i64 b) := by'.cell 1
    have by'_2 : w7.cell? ⟨w3.heap.size + 1, 2, none⟩ = some (.string ⟨#[]⟩) := by'.cell 2
    have by'_l := by'.lt
    have br_0 : w7.cell? ⟨w5.heap.size, 0, none⟩ = some (.int .i64 2) := br.cell 0
    have br_1 : w7.cell? ⟨w5.heap.size, 1, none⟩ = some (.int .i64 R) := br.cell 1
    have br_2 : w7.cell? ⟨w5.heap.size, 2, none⟩ = some (.string ⟨#[]⟩) := br.cell 2
    have br_l := br.lt
    go_wp2_with fail
    refine (cd _ _ (hb7.alloc (.cells #[.int .i64 0, .int .i64 0, .string ⟨#[]⟩] 24)) (ht.ext (k7.alloc (.cells #[.int .i64 0, .int .i64 0, .string ⟨#[]⟩] 24)))).mono ?_
    rintro e w8 ⟨rfl, e8⟩
    have hb8 := (hb7.alloc (.cells #[.int .i64 0, .int .i64 0, .string ⟨#[]⟩] 24)).ext e8
    have k8 := (k7.alloc (.cells #[.int .i64 0, .int .i64 0, .string ⟨#[]⟩] 24)).trans e8
    replace bx := (bx.alloc (.cells #[.int .i64 0, .int .i64 0, .string ⟨#[]⟩] 24)).ext e8
    replace by' := (by'.alloc (.cells #[.int .i64 0, .int .i64 0, .string ⟨#[]⟩] 24)).ext e8
    replace bq := (bq.alloc (.cells #[.int .i64 0, .int .i64 0, .string ⟨#[]⟩] 24)).ext e8
    replace br := (br.alloc (.cells #[.int .i64 0, .int .i64 0, .string ⟨#[]⟩] 24)).ext e8
    replace bp := (bp.alloc (.cells #[.int .i64 0, .int .i64 0, .string ⟨#[]⟩] 24)).ext e8
    have bs : Blk w8 w7.heap.size 24 #[.int .i64 0, .int .i64 0, .string ⟨#[]⟩] := (Blk.new w7 24 #[.int .i64 0, .int .i64 0, .string ⟨#[]⟩]).ext e8
    clear bx_0 bx_1 bx_2 bx_l
    clear by'_0 by'_1 by'_2 by'_l
    clear br_0 br_1 br_2 br_l
    clear e8 hb7 k7
    have bx_0 : w8.cell? ⟨w3.heap.size, 0, none⟩ = some (.int .i64 2) := bx.cell 0
    have bx_1 : w8.cell? ⟨w3.heap.size, 1, none⟩ = some (.int .i64 a) := bx.cell 1
    have bx_2 : w8.cell? ⟨w3.heap.size, 2, none⟩ = some (.string ⟨#[]⟩) := bx.cell 2
    have bx_l := bx.lt
    have by'_0 : w8.cell? ⟨w3.heap.size + 1, 0, none⟩ = some (.int .i64 2) := by'.cell 0
    have by'_1 : w8.cell? ⟨w3.heap.size + 1, 1, none⟩ = some (.int .i64 b) := by'.cell 1
    have by'_2 : w8.cell? ⟨w3.heap.size + 1, 2, none⟩ = some (.string ⟨#[]⟩) := by'.cell 2
    have by'_l := by'.lt
    go_wp2_with fail
    refine (cn _).mono ?_
    rintro e w9 ⟨rfl, e9⟩
    have hb9 := (hb8.alloc (.cells #[.int .i64 0, .int .i64 0, .string ⟨#[]⟩] 24)).ext e9
    have k9 := (k8.alloc (.cells #[.int .i64 0, .int .i64 0, .string ⟨#[]⟩] 24)).trans e9
    replace bx := (bx.alloc (.cells #[.int .i64 0, .int .i64 0, .string ⟨#[]⟩] 24)).ext e9
    replace by' := (by'.alloc (.cells #[.int .i64 0, .int .i64 0, .string ⟨#[]⟩] 24)).ext e9
    replace bq := (bq.alloc (.cells #[.int .i64 0, .int .i64 0, .string ⟨#[]⟩] 24)).ext e9
    replace br := (br.alloc (.cells #[.int .i64 0, .int .i64 0, .string ⟨#[]⟩] 24)).ext e9
    replace bp := (bp.alloc (.cells #[.int .i64 0, .int .i64 0, .string ⟨#[]⟩] 24)).ext e9
    replace bs := (bs.alloc (.cells #[.int .i64 0, .int .i64 0, .string ⟨#[]⟩] 24)).ext e9
    have bd : Blk w9 w8.heap.size 24 #[.int .i64 0, .int .i64 0, .string ⟨#[]⟩] := (Blk.new w8 24 #[.int .i64 0, .int .i64 0, .string ⟨#[]⟩]).ext e9
    clear bx_0 bx_1 bx_2 bx_l
    clear by'_0 by'_1 by'_2 by'_l
    clear e9 hb8 k8
    have bx_0 : w9.cell? ⟨w3.heap.size, 0, none⟩ = some (.int .i64 2) := bx.cell 0
    have bx_1 : w9.cell? ⟨w3.heap.size, 1, none⟩ = some (.int .i64 a) := bx.cell 1
    have bx_2 : w9.cell? ⟨w3.heap.size, 2, none⟩ = some (.string ⟨#[]⟩) := bx.cell 2
    have bx_l := bx.lt
    go_upto_region 18 with fail
    generalize hwz : w9.alloc (.cells #[.int .i64 mk, .int .i64 mn, .string ms] 24) = wz
    have hN : Blk wz w9.heap.size 24 #[.int .i64 mk, .int .i64 mn, .string ms] := hwz ▸ Blk.new _ _ _
    have hX : Blk wz w3.heap.size 24 #[.int .i64 2, .int .i64 a, .string ⟨#[]⟩] := hwz ▸ bx.alloc _
    have hbz : HB wz w.heap.size (.slice none 0 0) 0 0 := hwz ▸ hb9.alloc _
    have kz : Ext w wz := hwz ▸ k9.alloc _
    clear bx_0 bx_1 bx_2 bx_l
    clear hwz hb9 k9 bx by' bq br bp bs bd
    have htz := ht.ext kz
    have x0 : wz.cell? ⟨w3.heap.size, 0, none⟩ = some (.int .i64 2) := hX.cell 0
    have x1 : wz.cell? ⟨w3.heap.size, 1, none⟩ = some (.int .i64 a) := hX.cell 1
    have x2 : wz.cell? ⟨w3.heap.size, 2, none⟩ = some (.string ⟨#[]⟩) := hX.cell 2
    have xl := hX.lt
    go_cut [22, 23] (fun s22 s23 wx => OpAt wz mk mn ms MW s22 s23 wx)
    case first =>
      go_region_with (first
        | (go_at_call 16; refine (int_any 0 _).mono ?_; rintro e u1 ⟨rfl, i1⟩; have j1 : Ext wz u1 := (by first | exact (Ext.refl wz).drew.trans i1 | exact ((Ext.refl wz).alloc _).drew.trans i1); have y0 := j1.cell x0; have y1 := j1.cell x1; have y2 := j1.cell x2; have yl := cell_lt' y0; (try (have zb : Blk u1 wz.heap.size 24 #[.int .i64 0, .int .i64 0, .string ⟨#[]⟩] := (Blk.new wz _ _).drew.ext i1)))
        | (go_at_call 11; (first | refine (cm _ _ (hbz.ext j1) (htz.ext j1)).mono ?_ | refine (cm _ _ ((hbz.ext j1).alloc _) ((htz.ext j1).alloc _)).mono ?_); rintro e u2 ⟨rfl, i2⟩; have j2 : Ext wz u2 := (by first | exact j1.trans i2 | exact (j1.alloc _).trans i2); (try (have zc : Blk u2 wz.heap.size 24 #[.int .i64 0, .int .i64 0, .string ⟨#[]⟩] := zb.ext i2; have z0 : u2.cell? ⟨wz.heap.size, 0, none⟩ = some (.int .i64 0) := zc.cell 0; have z1 : u2.cell? ⟨wz.heap.size, 1, none⟩ = some (.int .i64 0) := zc.cell 1; have z2 : u2.cell? ⟨wz.heap.size, 2, none⟩ = some (.string ⟨#[]⟩) := zc.cell 2; have z3 := zc.frozen 0; have z4 := zc.frozen 1; have z5 := zc.frozen 2)); (try (have zc : Blk u2 u1.heap.size 24 #[.int .i64 0, .int .i64 0, .string ⟨#[]⟩] := (Blk.new u1 _ _).ext i2; have z0 : u2.cell? ⟨u1.heap.size, 0, none⟩ = some (.int .i64 0) := zc.cell 0; have z1 : u2.cell? ⟨u1.heap.size, 1, none⟩ = some (.int .i64 0) := zc.cell 1; have z2 : u2.cell? ⟨u1.heap.size, 2, none⟩ = some (.string ⟨#[]⟩) := zc.cell 2; have z3 := zc.frozen 0; have z4 := zc.frozen 1; have z5 := zc.frozen 2))))
      all_goals (go_wp2_with fail; go_meet; first | exact opAt1 _ _ _ _ j2 | exact opAt2 _ _ _ _ j2 zc (Nat.le_refl _) | exact opAt2 _ _ _ _ j2 zc j1.le)
    case rest =>
      obtain ⟨B, rfl, rfl, ez, hB⟩ := hcut
      have hN2 := hN.ext ez
      have n0 : wc.cell? ⟨w9.heap.size, 0, none⟩ = some (.int .i64 mk) := hN2.cell 0
      have m0 : wc.cell? ⟨B, 0, none⟩ = some (.int .i64 mk) := hB.cell 0
      have n1 : wc.cell? ⟨w9.heap.size, 1, none⟩ = some (.int .i64 mn) := hN2.cell 1
      have m1 : wc.cell? ⟨B, 1, none⟩ = some (.int .i64 mn) := hB.cell 1
      have n2 : wc.cell? ⟨w9.heap.size, 2, none⟩ = some (.string ms) := hN2.cell 2
      have m2 : wc.cell? ⟨B, 2, none⟩ = some (.string ms) := hB.cell 2
      have kc := kz.trans ez
      clear hN hX hbz kz htz x0 x1 x2 xl ez hN2 hB cm
      go_wp2_with fail
      refine (known_any _ (ht.ext kc)).mono ?_
      rintro e wk ⟨rfl, ek⟩
      go_wp2_with fail
      go_ret
      exact ⟨rfl, kc.trans ek⟩
  · have hs : decide (R < 0) = decide (b < 0) := hsg.resolve_left (by simpa using hRz)
    cases hb0 : decide (b < 0)
    · rw [hb0] at hs
      have t1 : sOver.toList = [111, 118, 101, 114] := by rw [Lib.toList_data]; rfl
      have t2 : sType.toList = [116, 121, 112, 101] := by rw [Lib.toList_data]; rfl
      clear q1 q2 r1 r2 hp hqr hQ hR hd hsg s1 ha hb
      go_enter Tryd.func5, Tryd.ntmps5
      go_wp2_with fail
      refine (new_any 0 _ (by omega) (by omega)).mono ?_
      rintro e w1 ⟨rfl, hw1⟩
      have hb1 : HB w1 w.heap.size (.slice none 0 0) 0 0 := hw1 ▸ Blk.new _ _ _
      have k1 : Ext w w1 := hw1 ▸ (Ext.refl w).alloc _
      clear hw1
      go_wp2_with fail
      refine (int_any a _).mono ?_
      rintro e w2 ⟨rfl, e2⟩
      have hb2 := hb1.ext e2
      have k2 := k1.trans e2
      clear e2 hb1 k1
      go_wp2_with fail
      refine (int_any b _).mono ?_
      rintro e w3 ⟨rfl, e3⟩
      have hb3 := hb2.ext e3
      have k3 := k2.trans e3
      clear e3 hb2 k2
      go_wp2_with fail
      refine (cq _ _ ((hb3.alloc (.cells #[.int .i64 2, .int .i64 a, .string ⟨#[]⟩] 24)).alloc (.cells #[.int .i64 2, .int .i64 b, .string ⟨#[]⟩] 24)) (ht.ext ((k3.alloc (.cells #[.int .i64 2, .int .i64 a, .string ⟨#[]⟩] 24)).alloc (.cells #[.int .i64 2, .int .i64 b, .string ⟨#[]⟩] 24)))).mono ?_
      rintro e w4 ⟨rfl, e4⟩
      have hb4 := ((hb3.alloc (.cells #[.int .i64 2, .int .i64 a, .string ⟨#[]⟩] 24)).alloc (.cells #[.int .i64 2, .int .i64 b, .string ⟨#[]⟩] 24)).ext e4
      have k4 := ((k3.alloc (.cells #[.int .i64 2, .int .i64 a, .string ⟨#[]⟩] 24)).alloc (.cells #[.int .i64 2, .int .i64 b, .string ⟨#[]⟩] 24)).trans e4
      have bx : Blk w4 w3.heap.size 24 #[.int .i64 2, .int .i64 a, .string ⟨#[]⟩] := ((Blk.new w3 24 #[.int .i64 2, .int .i64 a, .string ⟨#[]⟩]).alloc (.cells #[.int .i64 2, .int .i64 b, .string ⟨#[]⟩] 24)).ext e4
      have by' : Blk w4 (w3.heap.size + 1) 24 #[.int .i64 2, .int .i64 b, .string ⟨#[]⟩] := by have := (Blk.new (w3.alloc (.cells #[.int .i64 2, .int .i64 a, .string ⟨#[]⟩] 24)) 24 #[.int .i64 2, .int .i64 b, .string ⟨#[]⟩]).ext e4; rwa [size_alloc] at this
      clear e4 hb3 k3
      have bx_0 : w4.cell? ⟨w3.heap.size, 0, none⟩ = some (.int .i64 2) := bx.cell 0
      have bx_1 : w4.cell? ⟨w3.heap.size, 1, none⟩ = some (.int .i64 a) := bx.cell 1
      have bx_2 : w4.cell? ⟨w3.heap.size, 2, none⟩ = some (.string ⟨#[]⟩) := bx.cell 2
      have bx_l := bx.lt
      have by'_0 : w4.cell? ⟨w3.heap.size + 1, 0, none⟩ = some (.int .i64 2) := by'.cell 0
      have by'_1 : w4.cell? ⟨w3.heap.size + 1, 1, none⟩ = some (.int .i64 b) := by'.cell 1
      have by'_2 : w4.cell? ⟨w3.heap.size + 1, 2, none⟩ = some (.string ⟨#[]⟩) := by'.cell 2
      have by'_l := by'.lt
      go_wp2_with fail
      refine (cr _ _ (hb4.alloc (.cells #[.int .i64 2, .int .i64 Q, .string ⟨#[]⟩] 24)) (ht.ext (k4.alloc (.cells #[.int .i64 2, .int .i64 Q, .string ⟨#[]⟩] 24)))).mono ?_
      rintro e w5 ⟨rfl, e5⟩
      have hb5 := (hb4.alloc (.cells #[.int .i64 2, .int .i64 Q, .string ⟨#[]⟩] 24)).ext e5
      have k5 := (k4.alloc (.cells #[.int .i64 2, .int .i64 Q, .string ⟨#[]⟩] 24)).trans e5
      replace bx := (bx.alloc (.cells #[.int .i64 2, .int .i64 Q, .string ⟨#[]⟩] 24)).ext e5
      replace by' := (by'.alloc (.cells #[.int .i64 2, .int .i64 Q, .string ⟨#[]⟩] 24)).ext e5
      have bq : Blk w5 w4.heap.size 24 #[.int .i64 2, .int .i64 Q, .string ⟨#[]⟩] := (Blk.new w4 24 #[.int .i64 2, .int .i64 Q, .string ⟨#[]⟩]).ext e5
      clear bx_0 bx_1 bx_2 bx_l
      clear by'_0 by'_1 by'_2 by'_l
      clear e5 hb4 k4
      have bx_0 : w5.cell? ⟨w3.heap.size, 0, none⟩ = some (.int .i64 2) := bx.cell 0
      have bx_1 : w5.cell? ⟨w3.heap.size, 1, none⟩ = some (.int .i64 a) := bx.cell 1
      have bx_2 : w5.cell? ⟨w3.heap.size, 2, none⟩ = some (.string ⟨#[]⟩) := bx.cell 2
      have bx_l := bx.lt
      have by'_0 : w5.cell? ⟨w3.heap.size + 1, 0, none⟩ = some (.int .i64 2) := by'.cell 0
      have by'_1 : w5.cell? ⟨w3.heap.size + 1, 1, none⟩ = some (.int .i64 b) := by'.cell 1
      have by'_2 : w5.cell? ⟨w3.heap.size + 1, 2, none⟩ = some (.string ⟨#[]⟩) := by'.cell 2
      have by'_l := by'.lt
      have bq_0 : w5.cell? ⟨w4.heap.size, 0, none⟩ = some (.int .i64 2) := bq.cell 0
      have bq_1 : w5.cell? ⟨w4.heap.size, 1, none⟩ = some (.int .i64 Q) := bq.cell 1
      have bq_2 : w5.cell? ⟨w4.heap.size, 2, none⟩ = some (.string ⟨#[]⟩) := bq.cell 2
      have bq_l := bq.lt
      go_wp2_with fail
      refine (cp _ _ (hb5.alloc (.cells #[.int .i64 2, .int .i64 R, .string ⟨#[]⟩] 24)) (ht.ext (k5.alloc (.cells #[.int .i64 2, .int .i64 R, .string ⟨#[]⟩] 24)))).mono ?_
      rintro e w6 ⟨rfl, e6⟩
      have hb6 := (hb5.alloc (.cells #[.int .i64 2, .int .i64 R, .string ⟨#[]⟩] 24)).ext e6
      have k6 := (k5.alloc (.cells #[.int .i64 2, .int .i64 R, .string ⟨#[]⟩] 24)).trans e6
      replace bx := (bx.alloc (.cells #[.int .i64 2, .int .i64 R, .string ⟨#[]⟩] 24)).ext e6
      replace by' := (by'.alloc (.cells #[.int .i64 2, .int .i64 R, .string ⟨#[]⟩] 24)).ext e6
      replace bq := (bq.alloc (.cells #[.int .i64 2, .int .i64 R, .string ⟨#[]⟩] 24)).ext e6
      have br : Blk w6 w5.heap.size 24 #[.int .i64 2, .int .i64 R, .string ⟨#[]⟩] := (Blk.new w5 24 #[.int .i64 2, .int .i64 R, .string ⟨#[]⟩]).ext e6
      clear bx_0 bx_1 bx_2 bx_l
      clear by'_0 by'_1 by'_2 by'_l
      clear bq_0 bq_1 bq_2 bq_l
      clear e6 hb5 k5
      have bx_0 : w6.cell? ⟨w3.heap.size, 0, none⟩ = some (.int .i64 2) := bx.cell 0
      have bx_1 : w6.cell? ⟨w3.heap.size, 1, none⟩ = some (.int .i64 a) := bx.cell 1
      have bx_2 : w6.cell? ⟨w3.heap.size, 2, none⟩ = some (.string ⟨#[]⟩) := bx.cell 2
      have bx_l := bx.lt
      have by'_0 : w6.cell? ⟨w3.heap.size + 1, 0, none⟩ = some (.int .i64 2) := by'.cell 0
      have by'_1 : w6.cell? ⟨w3.heap.size + 1, 1, none⟩ = some (.int .i64 b) := by'.cell 1
      have by'_2 : w6.cell? ⟨w3.heap.size + 1, 2, none⟩ = some (.string ⟨#[]⟩) := by'.cell 2
      have by'_l := by'.lt
      have br_0 : w6.cell? ⟨w5.heap.size, 0, none⟩ = some (.int .i64 2) := br.cell 0
      have br_1 : w6.cell? ⟨w5.heap.size, 1, none⟩ = some (.int .i64 R) := br.cell 1
      have br_2 : w6.cell? ⟨w5.heap.size, 2, none⟩ = some (.string ⟨#[]⟩) := br.cell 2
      have br_l := br.lt
      go_wp2_with fail
      refine (cs _ _ (hb6.alloc (.cells #[.int .i64 0, .int .i64 0, .string ⟨#[]⟩] 24)) (ht.ext (k6.alloc (.cells #[.int .i64 0, .int .i64 0, .string ⟨#[]⟩] 24)))).mono ?_
      rintro e w7 ⟨rfl, e7⟩
      have hb7 := (hb6.alloc (.cells #[.int .i64 0, .int .i64 0, .string ⟨#[]⟩] 24)).ext e7
      have k7 := (k6.alloc (.cells #[.int .i64 0, .int .i64 0, .string ⟨#[]⟩] 24)).trans e7
      replace bx := (bx.alloc (.cells #[.int .i64 0, .int .i64 0, .string ⟨#[]⟩] 24)).ext e7
      replace by' := (by'.alloc (.cells #[.int .i64 0, .int .i64 0, .string ⟨#[]⟩] 24)).ext e7
      replace bq := (bq.alloc (.cells #[.int .i64 0, .int .i64 0, .string ⟨#[]⟩] 24)).ext e7
      replace br := (br.alloc (.cells #[.int .i64 0, .int .i64 0, .string ⟨#[]⟩] 24)).ext e7
      have bp : Blk w7 w6.heap.size 24 #[.int .i64 0, .int .i64 0, .string ⟨#[]⟩] := (Blk.new w6 24 #[.int .i64 0, .int .i64 0, .string ⟨#[]⟩]).ext e7
      clear bx_0 bx_1 bx_2 bx_l
      clear by'_0 by'_1 by'_2 by'_l
      clear br_0 br_1 br_2 br_l
      clear e7 hb6 k6
      have bx_0 : w7.cell? ⟨w3.heap.size, 0, none⟩ = some (.int .i64 2) := bx.cell 0
      have bx_1 : w7.cell? ⟨w3.heap.size, 1, none⟩ = some (.int .i64 a) := bx.cell 1
      have bx_2 : w7.cell? ⟨w3.heap.size, 2, none⟩ = some (.string ⟨#[]⟩) := bx.cell 2
      have bx_l := bx.lt
      have by'_0 : w7.cell? ⟨w3.heap.size + 1, 0, none⟩ = some (.int .i64 2) := by'.cell 0
      have by'_1 : w7.cell? ⟨w3.heap.size + 1, 1, none⟩ = some (.int .i64 b) := by'.cell 1
      have by'_2 : w7.cell? ⟨w3.heap.size + 1, 2, none⟩ = some (.string ⟨#[]⟩) := by'.cell 2
      have by'_l := by'.lt
      have br_0 : w7.cell? ⟨w5.heap.size, 0, none⟩ = some (.int .i64 2) := br.cell 0
      have br_1 : w7.cell? ⟨w5.heap.size, 1, none⟩ = some (.int .i64 R) := br.cell 1
      have br_2 : w7.cell? ⟨w5.heap.size, 2, none⟩ = some (.string ⟨#[]⟩) := br.cell 2
      have br_l := br.lt
      go_wp2_with fail
      refine (cd _ _ (hb7.alloc (.cells #[.int .i64 0, .int .i64 0, .string ⟨#[]⟩] 24)) (ht.ext (k7.alloc (.cells #[.int .i64 0, .int .i64 0, .string ⟨#[]⟩] 24)))).mono ?_
      rintro e w8 ⟨rfl, e8⟩
      have hb8 := (hb7.alloc (.cells #[.int .i64 0, .int .i64 0, .string ⟨#[]⟩] 24)).ext e8
      have k8 := (k7.alloc (.cells #[.int .i64 0, .int .i64 0, .string ⟨#[]⟩] 24)).trans e8
      replace bx := (bx.alloc (.cells #[.int .i64 0, .int .i64 0, .string ⟨#[]⟩] 24)).ext e8
      replace by' := (by'.alloc (.cells #[.int .i64 0, .int .i64 0, .string ⟨#[]⟩] 24)).ext e8
      replace bq := (bq.alloc (.cells #[.int .i64 0, .int .i64 0, .string ⟨#[]⟩] 24)).ext e8
      replace br := (br.alloc (.cells #[.int .i64 0, .int .i64 0, .string ⟨#[]⟩] 24)).ext e8
      replace bp := (bp.alloc (.cells #[.int .i64 0, .int .i64 0, .string ⟨#[]⟩] 24)).ext e8
      have bs : Blk w8 w7.heap.size 24 #[.int .i64 0, .int .i64 0, .string ⟨#[]⟩] := (Blk.new w7 24 #[.int .i64 0, .int .i64 0, .string ⟨#[]⟩]).ext e8
      clear bx_0 bx_1 bx_2 bx_l
      clear by'_0 by'_1 by'_2 by'_l
      clear br_0 br_1 br_2 br_l
      clear e8 hb7 k7
      have bx_0 : w8.cell? ⟨w3.heap.size, 0, none⟩ = some (.int .i64 2) := bx.cell 0
      have bx_1 : w8.cell? ⟨w3.heap.size, 1, none⟩ = some (.int .i64 a) := bx.cell 1
      have bx_2 : w8.cell? ⟨w3.heap.size, 2, none⟩ = some (.string ⟨#[]⟩) := bx.cell 2
      have bx_l := bx.lt
      have by'_0 : w8.cell? ⟨w3.heap.size + 1, 0, none⟩ = some (.int .i64 2) := by'.cell 0
      have by'_1 : w8.cell? ⟨w3.heap.size + 1, 1, none⟩ = some (.int .i64 b) := by'.cell 1
      have by'_2 : w8.cell? ⟨w3.heap.size + 1, 2, none⟩ = some (.string ⟨#[]⟩) := by'.cell 2
      have by'_l := by'.lt
      go_wp2_with fail
      refine (cn _).mono ?_
      rintro e w9 ⟨rfl, e9⟩
      have hb9 := (hb8.alloc (.cells #[.int .i64 0, .int .i64 0, .string ⟨#[]⟩] 24)).ext e9
      have k9 := (k8.alloc (.cells #[.int .i64 0, .int .i64 0, .string ⟨#[]⟩] 24)).trans e9
      replace bx := (bx.alloc (.cells #[.int .i64 0, .int .i64 0, .string ⟨#[]⟩] 24)).ext e9
      replace by' := (by'.alloc (.cells #[.int .i64 0, .int .i64 0, .string ⟨#[]⟩] 24)).ext e9
      replace bq := (bq.alloc (.cells #[.int .i64 0, .int .i64 0, .string ⟨#[]⟩] 24)).ext e9
      replace br := (br.alloc (.cells #[.int .i64 0, .int .i64 0, .string ⟨#[]⟩] 24)).ext e9
      replace bp := (bp.alloc (.cells #[.int .i64 0, .int .i64 0, .string ⟨#[]⟩] 24)).ext e9
      replace bs := (bs.alloc (.cells #[.int .i64 0, .int .i64 0, .string ⟨#[]⟩] 24)).ext e9
      have bd : Blk w9 w8.heap.size 24 #[.int .i64 0, .int .i64 0, .string ⟨#[]⟩] := (Blk.new w8 24 #[.int .i64 0, .int .i64 0, .string ⟨#[]⟩]).ext e9
      clear bx_0 bx_1 bx_2 bx_l
      clear by'_0 by'_1 by'_2 by'_l
      clear e9 hb8 k8
      have bx_0 : w9.cell? ⟨w3.heap.size, 0, none⟩ = some (.int .i64 2) := bx.cell 0
      have bx_1 : w9.cell? ⟨w3.heap.size, 1, none⟩ = some (.int .i64 a) := bx.cell 1
      have bx_2 : w9.cell? ⟨w3.heap.size, 2, none⟩ = some (.string ⟨#[]⟩) := bx.cell 2
      have bx_l := bx.lt
      go_upto_region 18 with fail
      generalize hwz : w9.alloc (.cells #[.int .i64 mk, .int .i64 mn, .string ms] 24) = wz
      have hN : Blk wz w9.heap.size 24 #[.int .i64 mk, .int .i64 mn, .string ms] := hwz ▸ Blk.new _ _ _
      have hX : Blk wz w3.heap.size 24 #[.int .i64 2, .int .i64 a, .string ⟨#[]⟩] := hwz ▸ bx.alloc _
      have hbz : HB wz w.heap.size (.slice none 0 0) 0 0 := hwz ▸ hb9.alloc _
      have kz : Ext w wz := hwz ▸ k9.alloc _
      clear bx_0 bx_1 bx_2 bx_l
      clear hwz hb9 k9 bx by' bq br bp bs bd
      have htz := ht.ext kz
      have x0 : wz.cell? ⟨w3.heap.size, 0, none⟩ = some (.int .i64 2) := hX.cell 0
      have x1 : wz.cell? ⟨w3.heap.size, 1, none⟩ = some (.int .i64 a) := hX.cell 1
      have x2 : wz.cell? ⟨w3.heap.size, 2, none⟩ = some (.string ⟨#[]⟩) := hX.cell 2
      have xl := hX.lt
      go_cut [22, 23] (fun s22 s23 wx => OpAt wz mk mn ms MW s22 s23 wx)
      case first =>
        go_region_with (first
          | (go_at_call 16; refine (int_any 0 _).mono ?_; rintro e u1 ⟨rfl, i1⟩; have j1 : Ext wz u1 := (by first | exact (Ext.refl wz).drew.trans i1 | exact ((Ext.refl wz).alloc _).drew.trans i1); have y0 := j1.cell x0; have y1 := j1.cell x1; have y2 := j1.cell x2; have yl := cell_lt' y0; (try (have zb : Blk u1 wz.heap.size 24 #[.int .i64 0, .int .i64 0, .string ⟨#[]⟩] := (Blk.new wz _ _).drew.ext i1)))
          | (go_at_call 11; (first | refine (cm _ _ (hbz.ext j1) (htz.ext j1)).mono ?_ | refine (cm _ _ ((hbz.ext j1).alloc _) ((htz.ext j1).alloc _)).mono ?_); rintro e u2 ⟨rfl, i2⟩; have j2 : Ext wz u2 := (by first | exact j1.trans i2 | exact (j1.alloc _).trans i2); (try (have zc : Blk u2 wz.heap.size 24 #[.int .i64 0, .int .i64 0, .string ⟨#[]⟩] := zb.ext i2; have z0 : u2.cell? ⟨wz.heap.size, 0, none⟩ = some (.int .i64 0) := zc.cell 0; have z1 : u2.cell? ⟨wz.heap.size, 1, none⟩ = some (.int .i64 0) := zc.cell 1; have z2 : u2.cell? ⟨wz.heap.size, 2, none⟩ = some (.string ⟨#[]⟩) := zc.cell 2; have z3 := zc.frozen 0; have z4 := zc.frozen 1; have z5 := zc.frozen 2)); (try (have zc : Blk u2 u1.heap.size 24 #[.int .i64 0, .int .i64 0, .string ⟨#[]⟩] := (Blk.new u1 _ _).ext i2; have z0 : u2.cell? ⟨u1.heap.size, 0, none⟩ = some (.int .i64 0) := zc.cell 0; have z1 : u2.cell? ⟨u1.heap.size, 1, none⟩ = some (.int .i64 0) := zc.cell 1; have z2 : u2.cell? ⟨u1.heap.size, 2, none⟩ = some (.string ⟨#[]⟩) := zc.cell 2; have z3 := zc.frozen 0; have z4 := zc.frozen 1; have z5 := zc.frozen 2))))
        all_goals (go_wp2_with fail; go_meet; first | exact opAt1 _ _ _ _ j2 | exact opAt2 _ _ _ _ j2 zc (Nat.le_refl _) | exact opAt2 _ _ _ _ j2 zc j1.le)
      case rest =>
        obtain ⟨B, rfl, rfl, ez, hB⟩ := hcut
        have hN2 := hN.ext ez
        have n0 : wc.cell? ⟨w9.heap.size, 0, none⟩ = some (.int .i64 mk) := hN2.cell 0
        have m0 : wc.cell? ⟨B, 0, none⟩ = some (.int .i64 mk) := hB.cell 0
        have n1 : wc.cell? ⟨w9.heap.size, 1, none⟩ = some (.int .i64 mn) := hN2.cell 1
        have m1 : wc.cell? ⟨B, 1, none⟩ = some (.int .i64 mn) := hB.cell 1
        have n2 : wc.cell? ⟨w9.heap.size, 2, none⟩ = some (.string ms) := hN2.cell 2
        have m2 : wc.cell? ⟨B, 2, none⟩ = some (.string ms) := hB.cell 2
        have kc := kz.trans ez
        clear hN hX hbz kz htz x0 x1 x2 xl ez hN2 hB cm
        go_wp2_with fail
        refine (known_any _ (ht.ext kc)).mono ?_
        rintro e wk ⟨rfl, ek⟩
        go_wp2_with fail
        go_ret
        exact ⟨rfl, kc.trans ek⟩
    · rw [hb0] at hs
      have t1 : sOver.toList = [111, 118, 101, 114] := by rw [Lib.toList_data]; rfl
      have t2 : sType.toList = [116, 121, 112, 101] := by rw [Lib.toList_data]; rfl
      clear q1 q2 r1 r2 hp hqr hQ hR hd hsg s1 ha hb
      go_enter Tryd.func5, Tryd.ntmps5
      go_wp2_with fail
      refine (new_any 0 _ (by omega) (by omega)).mono ?_
      rintro e w1 ⟨rfl, hw1⟩
      have hb1 : HB w1 w.heap.size (.slice none 0 0) 0 0 := hw1 ▸ Blk.new _ _ _
      have k1 : Ext w w1 := hw1 ▸ (Ext.refl w).alloc _
      clear hw1
      go_wp2_with fail
      refine (int_any a _).mono ?_
      rintro e w2 ⟨rfl, e2⟩
      have hb2 := hb1.ext e2
      have k2 := k1.trans e2
      clear e2 hb1 k1
      go_wp2_with fail
      refine (int_any b _).mono ?_
      rintro e w3 ⟨rfl, e3⟩
      have hb3 := hb2.ext e3
      have k3 := k2.trans e3
      clear e3 hb2 k2
      go_wp2_with fail
      refine (cq _ _ ((hb3.alloc (.cells #[.int .i64 2, .int .i64 a, .string ⟨#[]⟩] 24)).alloc (.cells #[.int .i64 2, .int .i64 b, .string ⟨#[]⟩] 24)) (ht.ext ((k3.alloc (.cells #[.int .i64 2, .int .i64 a, .string ⟨#[]⟩] 24)).alloc (.cells #[.int .i64 2, .int .i64 b, .string ⟨#[]⟩] 24)))).mono ?_
      rintro e w4 ⟨rfl, e4⟩
      have hb4 := ((hb3.alloc (.cells #[.int .i64 2, .int .i64 a, .string ⟨#[]⟩] 24)).alloc (.cells #[.int .i64 2, .int .i64 b, .string ⟨#[]⟩] 24)).ext e4
      have k4 := ((k3.alloc (.cells #[.int .i64 2, .int .i64 a, .string ⟨#[]⟩] 24)).alloc (.cells #[.int .i64 2, .int .i64 b, .string ⟨#[]⟩] 24)).trans e4
      have bx : Blk w4 w3.heap.size 24 #[.int .i64 2, .int .i64 a, .string ⟨#[]⟩] := ((Blk.new w3 24 #[.int .i64 2, .int .i64 a, .string ⟨#[]⟩]).alloc (.cells #[.int .i64 2, .int .i64 b, .string ⟨#[]⟩] 24)).ext e4
      have by' : Blk w4 (w3.heap.size + 1) 24 #[.int .i64 2, .int .i64 b, .string ⟨#[]⟩] := by have := (Blk.new (w3.alloc (.cells #[.int .i64 2, .int .i64 a, .string ⟨#[]⟩] 24)) 24 #[.int .i64 2, .int .i64 b, .string ⟨#[]⟩]).ext e4; rwa [size_alloc] at this
      clear e4 hb3 k3
      have bx_0 : w4.cell? ⟨w3.heap.size, 0, none⟩ = some (.int .i64 2) := bx.cell 0
      have bx_1 : w4.cell? ⟨w3.heap.size, 1, none⟩ = some (.int .i64 a) := bx.cell 1
      have bx_2 : w4.cell? ⟨w3.heap.size, 2, none⟩ = some (.string ⟨#[]⟩) := bx.cell 2
      have bx_l := bx.lt
      have by'_0 : w4.cell? ⟨w3.heap.size + 1, 0, none⟩ = some (.int .i64 2) := by'.cell 0
      have by'_1 : w4.cell? ⟨w3.heap.size + 1, 1, none⟩ = some (.int .i64 b) := by'.cell 1
      have by'_2 : w4.cell? ⟨w3.heap.size + 1, 2, none⟩ = some (.string ⟨#[]⟩) := by'.cell 2
      have by'_l := by'.lt
      go_wp2_with fail
      refine (cr _ _ (hb4.alloc (.cells #[.int .i64 2, .int .i64 Q, .string ⟨#[]⟩] 24)) (ht.ext (k4.alloc (.cells #[.int .i64 2, .int .i64 Q, .string ⟨#[]⟩] 24)))).mono ?_
      rintro e w5 ⟨rfl, e5⟩
      have hb5 := (hb4.alloc (.cells #[.int .i64 2, .int .i64 Q, .string ⟨#[]⟩] 24)).ext e5
      have k5 := (k4.alloc (.cells #[.int .i64 2, .int .i64 Q, .string ⟨#[]⟩] 24)).trans e5
      replace bx := (bx.alloc (.cells #[.int .i64 2, .int .i64 Q, .string ⟨#[]⟩] 24)).ext e5
      replace by' := (by'.alloc (.cells #[.int .i64 2, .int .i64 Q, .string ⟨#[]⟩] 24)).ext e5
      have bq : Blk w5 w4.heap.size 24 #[.int .i64 2, .int .i64 Q, .string ⟨#[]⟩] := (Blk.new w4 24 #[.int .i64 2, .int .i64 Q, .string ⟨#[]⟩]).ext e5
      clear bx_0 bx_1 bx_2 bx_l
      clear by'_0 by'_1 by'_2 by'_l
      clear e5 hb4 k4
      have bx_0 : w5.cell? ⟨w3.heap.size, 0, none⟩ = some (.int .i64 2) := bx.cell 0
      have bx_1 : w5.cell? ⟨w3.heap.size, 1, none⟩ = some (.int .i64 a) := bx.cell 1
      have bx_2 : w5.cell? ⟨w3.heap.size, 2, none⟩ = some (.string ⟨#[]⟩) := bx.cell 2
      have bx_l := bx.lt
      have by'_0 : w5.cell? ⟨w3.heap.size + 1, 0, none⟩ = some (.int .i64 2) := by'.cell 0
      have by'_1 : w5.cell? ⟨w3.heap.size + 1, 1, none⟩ = some (.int .i64 b) := by'.cell 1
      have by'_2 : w5.cell? ⟨w3.heap.size + 1, 2, none⟩ = some (.string ⟨#[]⟩) := by'.cell 2
      have by'_l := by'.lt
      have bq_0 : w5.cell? ⟨w4.heap.size, 0, none⟩ = some (.int .i64 2) := bq.cell 0
      have bq_1 : w5.cell? ⟨w4.heap.size, 1, none⟩ = some (.int .i64 Q) := bq.cell 1
      have bq_2 : w5.cell? ⟨w4.heap.size, 2, none⟩ = some (.string ⟨#[]⟩) := bq.cell 2
      have bq_l := bq.lt
      go_wp2_with fail
      refine (cp _ _ (hb5.alloc (.cells #[.int .i64 2, .int .i64 R, .string ⟨#[]⟩] 24)) (ht.ext (k5.alloc (.cells #[.int .i64 2, .int .i64 R, .string ⟨#[]⟩] 24)))).mono ?_
      rintro e w6 ⟨rfl, e6⟩
      have hb6 := (hb5.alloc (.cells #[.int .i64 2, .int .i64 R, .string ⟨#[]⟩] 24)).ext e6
      have k6 := (k5.alloc (.cells #[.int .i64 2, .int .i64 R, .string ⟨#[]⟩] 24)).trans e6
      replace bx := (bx.alloc (.cells #[.int .i64 2, .int .i64 R, .string ⟨#[]⟩] 24)).ext e6
      replace by' := (by'.alloc (.cells #[.int .i64 2, .int .i64 R, .string ⟨#[]⟩] 24)).ext e6
      replace bq := (bq.alloc (.cells #[.int .i64 2, .int .i64 R, .string ⟨#[]⟩] 24)).ext e6
      have br : Blk w6 w5.heap.size 24 #[.int .i64 2, .int .i64 R, .string ⟨#[]⟩] := (Blk.new w5 24 #[.int .i64 2, .int .i64 R, .string ⟨#[]⟩]).ext e6
      clear bx_0 bx_1 bx_2 bx_l
      clear by'_0 by'_1 by'_2 by'_l
      clear bq_0 bq_1 bq_2 bq_l
      clear e6 hb5 k5
      have bx_0 : w6.cell? ⟨w3.heap.size, 0, none⟩ = some (.int .i64 2) := bx.cell 0
      have bx_1 : w6.cell? ⟨w3.heap.size, 1, none⟩ = some (.int .i64 a) := bx.cell 1
      have bx_2 : w6.cell? ⟨w3.heap.size, 2, none⟩ = some (.string ⟨#[]⟩) := bx.cell 2
      have bx_l := bx.lt
      have by'_0 : w6.cell? ⟨w3.heap.size + 1, 0, none⟩ = some (.int .i64 2) := by'.cell 0
      have by'_1 : w6.cell? ⟨w3.heap.size + 1, 1, none⟩ = some (.int .i64 b) := by'.cell 1
      have by'_2 : w6.cell? ⟨w3.heap.size + 1, 2, none⟩ = some (.string ⟨#[]⟩) := by'.cell 2
      have by'_l := by'.lt
      have br_0 : w6.cell? ⟨w5.heap.size, 0, none⟩ = some (.int .i64 2) := br.cell 0
      have br_1 : w6.cell? ⟨w5.heap.size, 1, none⟩ = some (.int .i64 R) := br.cell 1
      have br_2 : w6.cell? ⟨w5.heap.size, 2, none⟩ = some (.string ⟨#[]⟩) := br.cell 2
      have br_l := br.lt
      go_wp2_with fail
      refine (cs _ _ (hb6.alloc (.cells #[.int .i64 0, .int .i64 0, .string ⟨#[]⟩] 24)) (ht.ext (k6.alloc (.cells #[.int .i64 0, .int .i64 0, .string ⟨#[]⟩] 24)))).mono ?_
      rintro e w7 ⟨rfl, e7⟩
      have hb7 := (hb6.alloc (.cells #[.int .i64 0, .int .i64 0, .string ⟨#[]⟩] 24)).ext e7
      have k7 := (k6.alloc (.cells #[.int .i64 0, .int .i64 0, .string ⟨#[]⟩] 24)).trans e7
      replace bx := (bx.alloc (.cells #[.int .i64 0, .int .i64 0, .string ⟨#[]⟩] 24)).ext e7
      replace by' := (by'.alloc (.cells #[.int .i64 0, .int .i64 0, .string ⟨#[]⟩] 24)).ext e7
      replace bq := (bq.alloc (.cells #[.int .i64 0, .int .i64 0, .string ⟨#[]⟩] 24)).ext e7
      replace br := (br.alloc (.cells #[.int .i64 0, .int .i64 0, .string ⟨#[]⟩] 24)).ext e7
      have bp : Blk w7 w6.heap.size 24 #[.int .i64 0, .int .i64 0, .string ⟨#[]⟩] := (Blk.new w6 24 #[.int .i64 0, .int .i64 0, .string ⟨#[]⟩]).ext e7
      clear bx_0 bx_1 bx_2 bx_l
      clear by'_0 by'_1 by'_2 by'_l
      clear br_0 br_1 br_2 br_l
      clear e7 hb6 k6
      have bx_0 : w7.cell? ⟨w3.heap.size, 0, none⟩ = some (.int .i64 2) := bx.cell 0
      have bx_1 : w7.cell? ⟨w3.heap.size, 1, none⟩ = some (.int .i64 a) := bx.cell 1
      have bx_2 : w7.cell? ⟨w3.heap.size, 2, none⟩ = some (.string ⟨#[]⟩) := bx.cell 2
      have bx_l := bx.lt
      have by'_0 : w7.cell? ⟨w3.heap.size + 1, 0, none⟩ = some (.int .i64 2) := by'.cell 0
      have by'_1 : w7.cell? ⟨w3.heap.size + 1, 1, none⟩ = some (.int .i64 b) := by'.cell 1
      have by'_2 : w7.cell? ⟨w3.heap.size + 1, 2, none⟩ = some (.string ⟨#[]⟩) := by'.cell 2
      have by'_l := by'.lt
      have br_0 : w7.cell? ⟨w5.heap.size, 0, none⟩ = some (.int .i64 2) := br.cell 0
      have br_1 : w7.cell? ⟨w5.heap.size, 1, none⟩ = some (.int .i64 R) := br.cell 1
      have br_2 : w7.cell? ⟨w5.heap.size, 2, none⟩ = some (.string ⟨#[]⟩) := br.cell 2
      have br_l := br.lt
      go_wp2_with fail
      refine (cd _ _ (hb7.alloc (.cells #[.int .i64 0, .int .i64 0, .string ⟨#[]⟩] 24)) (ht.ext (k7.alloc (.cells #[.int .i64 0, .int .i64 0, .string ⟨#[]⟩] 24)))).mono ?_
      rintro e w8 ⟨rfl, e8⟩
      have hb8 := (hb7.alloc (.cells #[.int .i64 0, .int .i64 0, .string ⟨#[]⟩] 24)).ext e8
      have k8 := (k7.alloc (.cells #[.int .i64 0, .int .i64 0, .string ⟨#[]⟩] 24)).trans e8
      replace bx := (bx.alloc (.cells #[.int .i64 0, .int .i64 0, .string ⟨#[]⟩] 24)).ext e8
      replace by' := (by'.alloc (.cells #[.int .i64 0, .int .i64 0, .string ⟨#[]⟩] 24)).ext e8
      replace bq := (bq.alloc (.cells #[.int .i64 0, .int .i64 0, .string ⟨#[]⟩] 24)).ext e8
      replace br := (br.alloc (.cells #[.int .i64 0, .int .i64 0, .string ⟨#[]⟩] 24)).ext e8
      replace bp := (bp.alloc (.cells #[.int .i64 0, .int .i64 0, .string ⟨#[]⟩] 24)).ext e8
      have bs : Blk w8 w7.heap.size 24 #[.int .i64 0, .int .i64 0, .string ⟨#[]⟩] := (Blk.new w7 24 #[.int .i64 0, .int .i64 0, .string ⟨#[]⟩]).ext e8
      clear bx_0 bx_1 bx_2 bx_l
      clear by'_0 by'_1 by'_2 by'_l
      clear br_0 br_1 br_2 br_l
      clear e8 hb7 k7
      have bx_0 : w8.cell? ⟨w3.heap.size, 0, none⟩ = some (.int .i64 2) := bx.cell 0
      have bx_1 : w8.cell? ⟨w3.heap.size, 1, none⟩ = some (.int .i64 a) := bx.cell 1
      have bx_2 : w8.cell? ⟨w3.heap.size, 2, none⟩ = some (.string ⟨#[]⟩) := bx.cell 2
      have bx_l := bx.lt
      have by'_0 : w8.cell? ⟨w3.heap.size + 1, 0, none⟩ = some (.int .i64 2) := by'.cell 0
      have by'_1 : w8.cell? ⟨w3.heap.size + 1, 1, none⟩ = some (.int .i64 b) := by'.cell 1
      have by'_2 : w8.cell? ⟨w3.heap.size + 1, 2, none⟩ = some (.string ⟨#[]⟩) := by'.cell 2
      have by'_l := by'.lt
      go_wp2_with fail
      refine (cn _).mono ?_
      rintro e w9 ⟨rfl, e9⟩
      have hb9 := (hb8.alloc (.cells #[.int .i64 0, .int .i64 0, .string ⟨#[]⟩] 24)).ext e9
      have k9 := (k8.alloc (.cells #[.int .i64 0, .int .i64 0, .string ⟨#[]⟩] 24)).trans e9
      replace bx := (bx.alloc (.cells #[.int .i64 0, .int .i64 0, .string ⟨#[]⟩] 24)).ext e9
      replace by' := (by'.alloc (.cells #[.int .i64 0, .int .i64 0, .string ⟨#[]⟩] 24)).ext e9
      replace bq := (bq.alloc (.cells #[.int .i64 0, .int .i64 0, .string ⟨#[]⟩] 24)).ext e9
      replace br := (br.alloc (.cells #[.int .i64 0, .int .i64 0, .string ⟨#[]⟩] 24)).ext e9
      replace bp := (bp.alloc (.cells #[.int .i64 0, .int .i64 0, .string ⟨#[]⟩] 24)).ext e9
      replace bs := (bs.alloc (.cells #[.int .i64 0, .int .i64 0, .string ⟨#[]⟩] 24)).ext e9
      have bd : Blk w9 w8.heap.size 24 #[.int .i64 0, .int .i64 0, .string ⟨#[]⟩] := (Blk.new w8 24 #[.int .i64 0, .int .i64 0, .string ⟨#[]⟩]).ext e9
      clear bx_0 bx_1 bx_2 bx_l
      clear by'_0 by'_1 by'_2 by'_l
      clear e9 hb8 k8
      have bx_0 : w9.cell? ⟨w3.heap.size, 0, none⟩ = some (.int .i64 2) := bx.cell 0
      have bx_1 : w9.cell? ⟨w3.heap.size, 1, none⟩ = some (.int .i64 a) := bx.cell 1
      have bx_2 : w9.cell? ⟨w3.heap.size, 2, none⟩ = some (.string ⟨#[]⟩) := bx.cell 2
      have bx_l := bx.lt
      go_upto_region 18 with fail
      generalize hwz : w9.alloc (.cells #[.int .i64 mk, .int .i64 mn, .string ms] 24) = wz
      have hN : Blk wz w9.heap.size 24 #[.int .i64 mk, .int .i64 mn, .string ms] := hwz ▸ Blk.new _ _ _
      have hX : Blk wz w3.heap.size 24 #[.int .i64 2, .int .i64 a, .string ⟨#[]⟩] := hwz ▸ bx.alloc _
      have hbz : HB wz w.heap.size (.slice none 0 0) 0 0 := hwz ▸ hb9.alloc _
      have kz : Ext w wz := hwz ▸ k9.alloc _
      clear bx_0 bx_1 bx_2 bx_l
      clear hwz hb9 k9 bx by' bq br bp bs bd
      have htz := ht.ext kz
      have x0 : wz.cell? ⟨w3.heap.size, 0, none⟩ = some (.int .i64 2) := hX.cell 0
      have x1 : wz.cell? ⟨w3.heap.size, 1, none⟩ = some (.int .i64 a) := hX.cell 1
      have x2 : wz.cell? ⟨w3.heap.size, 2, none⟩ = some (.string ⟨#[]⟩) := hX.cell 2
      have xl := hX.lt
      go_cut [22, 23] (fun s22 s23 wx => OpAt wz mk mn ms MW s22 s23 wx)
      case first =>
        go_region_with (first
          | (go_at_call 16; refine (int_any 0 _).mono ?_; rintro e u1 ⟨rfl, i1⟩; have j1 : Ext wz u1 := (by first | exact (Ext.refl wz).drew.trans i1 | exact ((Ext.refl wz).alloc _).drew.trans i1); have y0 := j1.cell x0; have y1 := j1.cell x1; have y2 := j1.cell x2; have yl := cell_lt' y0; (try (have zb : Blk u1 wz.heap.size 24 #[.int .i64 0, .int .i64 0, .string ⟨#[]⟩] := (Blk.new wz _ _).drew.ext i1)))
          | (go_at_call 11; (first | refine (cm _ _ (hbz.ext j1) (htz.ext j1)).mono ?_ | refine (cm _ _ ((hbz.ext j1).alloc _) ((htz.ext j1).alloc _)).mono ?_); rintro e u2 ⟨rfl, i2⟩; have j2 : Ext wz u2 := (by first | exact j1.trans i2 | exact (j1.alloc _).trans i2); (try (have zc : Blk u2 wz.heap.size 24 #[.int .i64 0, .int .i64 0, .string ⟨#[]⟩] := zb.ext i2; have z0 : u2.cell? ⟨wz.heap.size, 0, none⟩ = some (.int .i64 0) := zc.cell 0; have z1 : u2.cell? ⟨wz.heap.size, 1, none⟩ = some (.int .i64 0) := zc.cell 1; have z2 : u2.cell? ⟨wz.heap.size, 2, none⟩ = some (.string ⟨#[]⟩) := zc.cell 2; have z3 := zc.frozen 0; have z4 := zc.frozen 1; have z5 := zc.frozen 2)); (try (have zc : Blk u2 u1.heap.size 24 #[.int .i64 0, .int .i64 0, .string ⟨#[]⟩] := (Blk.new u1 _ _).ext i2; have z0 : u2.cell? ⟨u1.heap.size, 0, none⟩ = some (.int .i64 0) := zc.cell 0; have z1 : u2.cell? ⟨u1.heap.size, 1, none⟩ = some (.int .i64 0) := zc.cell 1; have z2 : u2.cell? ⟨u1.heap.size, 2, none⟩ = some (.string ⟨#[]⟩) := zc.cell 2; have z3 := zc.frozen 0; have z4 := zc.frozen 1; have z5 := zc.frozen 2))))
        all_goals (go_wp2_with fail; go_meet; first | exact opAt1 _ _ _ _ j2 | exact opAt2 _ _ _ _ j2 zc (Nat.le_refl _) | exact opAt2 _ _ _ _ j2 zc j1.le)
      case rest =>
        obtain ⟨B, rfl, rfl, ez, hB⟩ := hcut
        have hN2 := hN.ext ez
        have n0 : wc.cell? ⟨w9.heap.size, 0, none⟩ = some (.int .i64 mk) := hN2.cell 0
        have m0 : wc.cell? ⟨B, 0, none⟩ = some (.int .i64 mk) := hB.cell 0
        have n1 : wc.cell? ⟨w9.heap.size, 1, none⟩ = some (.int .i64 mn) := hN2.cell 1
        have m1 : wc.cell? ⟨B, 1, none⟩ = some (.int .i64 mn) := hB.cell 1
        have n2 : wc.cell? ⟨w9.heap.size, 2, none⟩ = some (.string ms) := hN2.cell 2
        have m2 : wc.cell? ⟨B, 2, none⟩ = some (.string ms) := hB.cell 2
        have kc := kz.trans ez
        clear hN hX hbz kz htz x0 x1 x2 xl ez hN2 hB cm
        go_wp2_with fail
        refine (known_any _ (ht.ext kc)).mono ?_
        rintro e wk ⟨rfl, ek⟩
        go_wp2_with fail
        go_ret
        exact ⟨rfl, kc.trans ek⟩
end Go.Proofs.YtidjibghicejaaaDoor
