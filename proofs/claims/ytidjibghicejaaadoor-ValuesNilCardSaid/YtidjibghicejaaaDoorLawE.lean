/- What an operator makes of two values: the law. -/
import Derived.Test.YtidjibghicejaaaDoorLawD
namespace Go.Proofs.YtidjibghicejaaaDoor
open Go.RowKit
set_option linter.unusedVariables false
set_option linter.unusedSimpArgs false

theorem new_at {W : World} {k : Nat} (h : k = W.heap.size) (o : Obj) : (W.alloc o).heap[k]? = some o := by subst h; exact heap_alloc_new _ _
theorem long_two (B : Nat) (a b : Vl) (t : TypeId) (fz : Nat × Nat) (w : World) (h : w.heap[B]? = some (.cells #[.int .i64 a.k, .int .i64 a.n, .string a.s, .int .i64 b.k, .int .i64 b.n, .string b.s] t fz))
    (ha : a.s.size ≤ 9223372036854775807) (hb : b.s.size ≤ 9223372036854775807) (v : Bool) (hv : (decide (500 < (a.s.size : Int)) || decide (500 < (b.s.size : Int))) = v) :
    Calls Tryd.prog 7 #[.slice (some ⟨B, 0, none⟩) 2 2] w fun e w' => e = .returned (.bool v) ∧ w' = w := by
  have := long_any B 2 (fun i => if i = 0 then a.s else b.s) w (by omega) (fun i hi => by
    rw [cell_of_row w B _ _ t fz h]
    have : i = 0 ∨ i = 1 := by omega
    rcases this with rfl | rfl <;> rfl) (fun i _ => by show (if i = 0 then a.s else b.s).size ≤ _; split <;> assumption)
  rw [show longF (fun i => if i = 0 then a.s else b.s) 0 2 = v from by rw [← hv]; simp [longF]] at this
  exact this

abbrev opArgs (o : ByteArray) (a b : Vl) (n : Int) : Array Value := #[.string o, .agg #[.int .i64 a.k, .int .i64 a.n, .string a.s, .int .i64 b.k, .int .i64 b.n, .string b.s], .int .i64 n]
set_option maxRecDepth 100000 in
theorem vop_long (o : ByteArray) (a b : Vl) (n : Int) (w : World) (ht : Pow w) (ha : a.s.size ≤ 9223372036854775807) (hb : b.s.size ≤ 9223372036854775807)
    (hl : (decide (500 < (a.s.size : Int)) || decide (500 < (b.s.size : Int))) = true) :
    Calls Tryd.prog 3 (opArgs o a b n) w fun e w' => e = .returned (.bool true) ∧ Ext w w' := by
  go_enter Tryd.func3, Tryd.ntmps3
  go_wp2_with fail
  refine (long_two _ a b _ _ _ (new_at (size_alloc _ _).symm _) ha hb true hl).mono ?_
  rintro e w' ⟨rfl, rfl⟩
  go_wp2_with fail
  refine (known_any _ ((ht.alloc _).alloc _)).mono ?_
  rintro e w' ⟨rfl, he⟩
  go_wp2_with fail
  go_ret
  exact ⟨rfl, (((Ext.refl w).alloc _).alloc _).trans he⟩
set_option maxRecDepth 100000 in
theorem vop_op (o : ByteArray) (a b : Vl) (n : Int) (w : World) (ht : Pow w) (ha : a.s.size ≤ 9223372036854775807) (hb : b.s.size ≤ 9223372036854775807) (ho : o.size ≤ 9223372036854775807)
    (hl : (decide (500 < (a.s.size : Int)) || decide (500 < (b.s.size : Int))) = false) (hq : decide (500 < (o.size : Int)) = true) :
    Calls Tryd.prog 3 (opArgs o a b n) w fun e w' => e = .returned (.bool true) ∧ Ext w w' := by
  go_enter Tryd.func3, Tryd.ntmps3
  go_wp2_with fail
  refine (long_two _ a b _ _ _ (new_at (size_alloc _ _).symm _) ha hb false hl).mono ?_
  rintro e w' ⟨rfl, rfl⟩
  go_wp2_with fail
  refine (known_any _ ((ht.alloc _).alloc _)).mono ?_
  rintro e w' ⟨rfl, he⟩
  go_wp2_with fail
  go_ret
  exact ⟨rfl, (((Ext.refl w).alloc _).alloc _).trans he⟩
set_option maxRecDepth 100000 in
theorem vop_cells (o : ByteArray) (a b : Vl) (n : Int) (w : World) (ht : Pow w) (ha : a.s.size ≤ 9223372036854775807) (hb : b.s.size ≤ 9223372036854775807) (ho : o.size ≤ 9223372036854775807)
    (hl : (decide (500 < (a.s.size : Int)) || decide (500 < (b.s.size : Int))) = false) (hq : decide (500 < (o.size : Int)) = false) (hn : decide (1000 < n) = true) :
    Calls Tryd.prog 3 (opArgs o a b n) w fun e w' => e = .returned (.bool true) ∧ Ext w w' := by
  go_enter Tryd.func3, Tryd.ntmps3
  go_wp2_with fail
  refine (long_two _ a b _ _ _ (new_at (size_alloc _ _).symm _) ha hb false hl).mono ?_
  rintro e w' ⟨rfl, rfl⟩
  go_wp2_with fail
  refine (known_any _ ((ht.alloc _).alloc _)).mono ?_
  rintro e w' ⟨rfl, he⟩
  go_wp2_with fail
  go_ret
  exact ⟨rfl, (((Ext.refl w).alloc _).alloc _).trans he⟩
set_option maxHeartbeats 2000000 in
set_option maxRecDepth 100000 in
theorem vop_main (o : ByteArray) (a b : Vl) (n : Int) (w : World) (ht : Pow w) (fa : Fits a) (fb : Fits b) (hn0 : -9223372036854775808 ≤ n) (ho : o.size ≤ 9223372036854775807)
    (hl : (decide (500 < (a.s.size : Int)) || decide (500 < (b.s.size : Int))) = false) (hq : decide (500 < (o.size : Int)) = false) (hn : decide (1000 < n) = false) :
    Calls Tryd.prog 3 (opArgs o a b n) w fun e w' => e = .returned (.bool true) ∧ Ext w w' := by
  have hn1 : n ≤ 1000 := by simpa using hn
  have za := fa.sz
  have zb := fb.sz
  obtain ⟨R, hR⟩ : ∃ R, opZ o (max n 0) 0 a b = R := ⟨_, rfl⟩
  have hm0 : 0 ≤ max n 0 := Int.le_max_right _ _
  have hm1 : max n 0 ≤ 4611686018427387903 := by omega
  have cI := fun g w' h ht => op_all g (.slice none 0 0) (max n 0) 0 o a b w' h (Int.le_refl _) hm0 hm1 ht fa fb
  have cR := fun g w' h ht => rop_all g (.slice none 0 0) (max n 0) 0 o a b w' h (Int.le_refl _) hm0 hm1 ht fa fb
  rw [hR] at cI cR
  clear hR
  obtain ⟨⟨rk, rn, rs⟩, rw', rc⟩ := R
  go_enter Tryd.func3, Tryd.ntmps3
  go_wp2_with fail
  refine (long_two _ a b _ _ _ (new_at (size_alloc _ _).symm _) (by omega) (by omega) false hl).mono ?_
  rintro e w0 ⟨rfl, hw0⟩
  have hB : w.heap.size < w0.heap.size := by rw [hw0, size_alloc, size_alloc]; omega
  have k0 : Ext w w0 := hw0 ▸ (((Ext.refl w).alloc _).alloc _)
  have b0 : w0.cell? ⟨w.heap.size, 0, none⟩ = some (.int .i64 a.k) := by rw [hw0]; go_simp
  have b1 : w0.cell? ⟨w.heap.size, 1, none⟩ = some (.int .i64 a.n) := by rw [hw0]; go_simp
  have b2 : w0.cell? ⟨w.heap.size, 2, none⟩ = some (.string a.s) := by rw [hw0]; go_simp
  have b3 : w0.cell? ⟨w.heap.size, 3, none⟩ = some (.int .i64 b.k) := by rw [hw0]; go_simp
  have b4 : w0.cell? ⟨w.heap.size, 4, none⟩ = some (.int .i64 b.n) := by rw [hw0]; go_simp
  have b5 : w0.cell? ⟨w.heap.size, 5, none⟩ = some (.string b.s) := by rw [hw0]; go_simp
  have ht0 := ht.ext k0
  clear hw0
  go_wp2_with fail
  refine (new_any n _ (by omega) (by omega)).mono ?_
  rintro e w1 ⟨rfl, hw1⟩
  have hb1 : HB w1 w0.heap.size (.slice none 0 0) (max n 0) 0 := hw1 ▸ Blk.new _ _ _
  have k1 : Ext w0 w1 := hw1 ▸ (Ext.refl w0).alloc _
  have l1 := hb1.lt
  clear hw1
  go_wp2_with fail
  refine (rnew_any n _ (by omega) (by omega)).mono ?_
  rintro e w2 ⟨rfl, hw2⟩
  have rb2 : RB w2 w1.heap.size (.slice none 0 0) (max n 0) 0 := hw2 ▸ Blk.new _ _ _
  have k2' : Ext w1 w2 := hw2 ▸ (Ext.refl w1).alloc _
  have hb2 := hb1.ext k2'
  have k2 : Ext w0 w2 := k1.trans k2'
  have l2 := rb2.lt
  clear hw2
  obtain ⟨p1, p2⟩ := k2.cells
  go_wp2_with fail
  refine (cI _ _ hb2 (ht0.ext k2)).mono ?_
  rintro e w3 ⟨rfl, ho, hb3⟩
  have rb3 := rb2.only ho (by omega)
  have k3 : Ext w0 w3 := ho.to_ext k2 (Nat.le_refl _)
  have l3 := hb3.lt
  have l3' := rb3.lt
  clear ho p1 p2
  obtain ⟨p1, p2⟩ := k3.cells
  have hx3 : w.heap.size < w3.heap.size := Nat.lt_of_lt_of_le hB k3.le
  go_wp2_with fail
  refine (cR _ _ (rb3.alloc _) (ht0.ext (k3.alloc _))).mono ?_
  rintro e w4 ⟨rfl, ho, rb4⟩
  have hb4 := (hb3.alloc _).only ho (by omega)
  have k4 : Ext w0 w4 := ho.to_ext (k3.alloc _) (by omega)
  obtain ⟨o1, o2⟩ := ho.cells
  have l4 := ho.lt1
  have hne : ¬ w3.heap.size = w1.heap.size := by omega
  clear ho p1 p2
  go_wp2_with fail
  have hb5 := hb4.alloc (.cells #[.int .i64 rk, .int .i64 rn, .string rs] 24)
  have rb5 := rb4.alloc (.cells #[.int .i64 rk, .int .i64 rn, .string rs] 24)
  have k5 := k4.alloc (.cells #[.int .i64 rk, .int .i64 rn, .string rs] 24)
  have lr5 : w1.heap.size < w4.heap.size := by omega
  have rc5 : w4.cell? ⟨w1.heap.size, 2, none⟩ = some (.int .i64 rc) := rb4.cell 2
  refine wp_region_ext (by kernel_rfl) (by kernel_rfl) ?_
  repeat (
    refine wpQuiet_step (fun K hK => ?_)
    first
      | (apply ext_no
         focus (go_simp; done))
      | (apply ext_yes
         focus (go_simp; done)
         focus (
           intro wq hq
           have q1 := (Ext.cells hq).1
           have q2 := (Ext.cells hq).2
           go_simp
           first | exact rfl | (first | (go_at_call 13; exact Calls.ext_of hq (spent_any _ _ _ _ _ (hb5.ext hq))) | (go_at_call 8; exact Calls.ext_of hq (known_any _ (ht0.ext (k5.trans hq)))))))
    refine hK _ ?_
    clear hK K
    go_simp)
  refine wpQuiet_nil ?_
  intro we hwe
  go_wp2
  go_ret
  exact ⟨rfl, (k0.trans k5).trans hwe⟩
end Go.Proofs.YtidjibghicejaaaDoor
