/- May an instruction be: the reference's answer, operator by operator. -/
import Derived.Test.YtfjipoijbmmjcaaGreatDoorYA4
namespace Go.Proofs.YtfjipoijbmmjcaaGreatDoor
open Go.RowKit Go.BigFrame
set_option linter.unusedVariables false
set_option linter.unusedSimpArgs false

theorem ne_mid3 {op k : Int} (h : 10 ≤ op) (h' : op ≤ 23) (hk : k < 10 ∨ 23 < k) : (op == k) = false := by rw [beq_eq_false_iff_ne]; omega
set_option maxRecDepth 100000 in
set_option maxHeartbeats 4000000 in
theorem rin_26 (vp vi vt cv : Value) (f : Pr) (a b c : Int) (w : World) (v : Bool) (hv : ((decide (0 ≤ a) && decide (a < f.rg)) && (decide (0 ≤ b) && decide (b < f.rg)) && (c == 0)) = v) :
    Calls Tryz.prog 20 #[.agg #[vp, vi, vt], .agg #[.int .i64 f.pa, .int .i64 f.rg, cv], .agg #[.int .i64 26, .int .i64 a, .int .i64 b, .int .i64 c]] w fun e w' => e = .returned (.bool v) ∧ Ext w w' := by
  obtain ⟨x, hx⟩ : ∃ x, (decide (0 ≤ a) && decide (a < f.rg)) = x := ⟨_, rfl⟩
  obtain ⟨y, hy⟩ : ∃ y, (b == 0) = y := ⟨_, rfl⟩
  obtain ⟨z, hz⟩ : ∃ z, (c == 0) = z := ⟨_, rfl⟩
  have cA := fun W => reg_any f (cv) a W
  rw [hx] at cA
  rw [hx] at hv
  replace hx := Lib.hid hx
  rw [hz] at hv
  go_enter Tryz.func20, Tryz.ntmps20
  go_wp2_with fail
  refine wp_region_ext (by kernel_rfl) (by kernel_rfl) ?_
  repeat (
    first
      | go_big_quiet_skip
      | (go_big_quiet_want
         go_big_quiet_op
         first
           | go_big_quiet_on
           | (apply Exists.intro
              refine ⟨fun wq hq => ?_, ?_⟩
              focus (
                have q1 := (Ext.cells hq).1
                have q2 := (Ext.cells hq).2
                first
                  | ((go_at_call 35; exact Calls.ext_of hq ((cA _).mono fun _ _ h => ⟨h.1, h.2 ▸ (Ext.refl _).alloc _⟩)); done)
                  | (go_simp; exact rfl))
              go_big_quiet_on)))
  refine wpQuiet_nil ?_
  intro we hwe
  clear cA
  have k0 : Ext w we := ((((Ext.refl w).alloc _).alloc _).alloc _).trans hwe
  have T00 := hwe.cell (a := ⟨w.heap.size, 0, none⟩) (v := vp) (by go_simp)
  have T01 := hwe.cell (a := ⟨w.heap.size, 1, none⟩) (v := vi) (by go_simp)
  have T02 := hwe.cell (a := ⟨w.heap.size, 2, none⟩) (v := vt) (by go_simp)
  have T10 := hwe.cell (a := ⟨w.heap.size + 1, 0, none⟩) (v := .int .i64 f.pa) (by go_simp)
  have T11 := hwe.cell (a := ⟨w.heap.size + 1, 1, none⟩) (v := .int .i64 f.rg) (by go_simp)
  have T12 := hwe.cell (a := ⟨w.heap.size + 1, 2, none⟩) (v := cv) (by go_simp)
  have T20 := hwe.cell (a := ⟨w.heap.size + 1 + 1, 0, none⟩) (v := .int .i64 26) (by go_simp)
  have T21 := hwe.cell (a := ⟨w.heap.size + 1 + 1, 1, none⟩) (v := .int .i64 a) (by go_simp)
  have T22 := hwe.cell (a := ⟨w.heap.size + 1 + 1, 2, none⟩) (v := .int .i64 b) (by go_simp)
  have T23 := hwe.cell (a := ⟨w.heap.size + 1 + 1, 3, none⟩) (v := .int .i64 c) (by go_simp)
  have l0 := cell_lt T00
  have l1 := cell_lt T10
  have l2 := cell_lt T20
  simp only at l0 l1 l2
  clear hwe
  cases x
  · obtain rfl : v = false := by rw [← hv]; rfl
    clear hv
    clear hx hy hz
    go_wp2_with fail
    go_ret
    exact ⟨rfl, by first | exact k0 | exact k0.alloc _ | exact (k0.alloc _).alloc _⟩
  cases h_rb : (decide (0 ≤ b) && decide (b < f.rg))
  · rw [h_rb] at hv
    have c_rb := fun W => reg_any f (cv) b W
    rw [h_rb] at c_rb
    clear h_rb
    obtain rfl : v = false := by rw [← hv]; rfl
    clear hv
    clear hx hy hz
    go_wp2_with ((go_at_call 35; ((with_reducible refine (c_rb _).mono ?_); rintro e w' ⟨rfl, rfl⟩)))
    go_ret
    exact ⟨rfl, by first | exact k0 | exact k0.alloc _ | exact (k0.alloc _).alloc _⟩
  rw [h_rb] at hv
  cases z
  · have c_rb := fun W => reg_any f (cv) b W
    rw [h_rb] at c_rb
    clear h_rb
    obtain rfl : v = false := by rw [← hv]; rfl
    clear hv
    clear hx hy hz
    go_wp2_with ((go_at_call 35; ((with_reducible refine (c_rb _).mono ?_); rintro e w' ⟨rfl, rfl⟩)))
    go_ret
    exact ⟨rfl, by first | exact k0 | exact k0.alloc _ | exact (k0.alloc _).alloc _⟩
  have c_rb := fun W => reg_any f (cv) b W
  rw [h_rb] at c_rb
  clear h_rb
  obtain rfl : v = true := by rw [← hv]; rfl
  clear hv
  clear hx hy hz
  go_wp2_with ((go_at_call 35; ((with_reducible refine (c_rb _).mono ?_); rintro e w' ⟨rfl, rfl⟩)))
  go_ret
  exact ⟨rfl, by first | exact k0 | exact k0.alloc _ | exact (k0.alloc _).alloc _⟩
set_option maxRecDepth 100000 in
set_option maxHeartbeats 4000000 in
theorem rin_mid (vp vi vt cv : Value) (op : Int) (f : Pr) (a b c : Int) (w : World) (o1 : 10 ≤ op) (o2 : op ≤ 23) (v : Bool) (hv : ((decide (0 ≤ a) && decide (a < f.rg)) && (decide (0 ≤ b) && decide (b < f.rg)) && (decide (0 ≤ c) && decide (c < f.rg))) = v) :
    Calls Tryz.prog 20 #[.agg #[vp, vi, vt], .agg #[.int .i64 f.pa, .int .i64 f.rg, cv], .agg #[.int .i64 op, .int .i64 a, .int .i64 b, .int .i64 c]] w fun e w' => e = .returned (.bool v) ∧ Ext w w' := by
  have p_0 : decide (24 ≤ op) = false := by simp; omega
  have p_1 : decide (10 ≤ op) = true := by simp; omega
  have p_2 : decide (op ≤ 23) = true := by simp; omega
  have o_1 : (op == 1) = false := ne_mid3 o1 o2 (by decide)
  have o_2 : (op == 2) = false := ne_mid3 o1 o2 (by decide)
  have o_3 : (op == 3) = false := ne_mid3 o1 o2 (by decide)
  have o_7 : (op == 7) = false := ne_mid3 o1 o2 (by decide)
  have o_8 : (op == 8) = false := ne_mid3 o1 o2 (by decide)
  have o_9 : (op == 9) = false := ne_mid3 o1 o2 (by decide)
  have o_34 : (op == 34) = false := ne_mid3 o1 o2 (by decide)
  have o_4 : (op == 4) = false := ne_mid3 o1 o2 (by decide)
  have o_5 : (op == 5) = false := ne_mid3 o1 o2 (by decide)
  have o_6 : (op == 6) = false := ne_mid3 o1 o2 (by decide)
  have o_27 : (op == 27) = false := ne_mid3 o1 o2 (by decide)
  have o_28 : (op == 28) = false := ne_mid3 o1 o2 (by decide)
  have o_29 : (op == 29) = false := ne_mid3 o1 o2 (by decide)
  have o_30 : (op == 30) = false := ne_mid3 o1 o2 (by decide)
  have o_31 : (op == 31) = false := ne_mid3 o1 o2 (by decide)
  have o_32 : (op == 32) = false := ne_mid3 o1 o2 (by decide)
  have o_33 : (op == 33) = false := ne_mid3 o1 o2 (by decide)
  have o_35 : (op == 35) = false := ne_mid3 o1 o2 (by decide)
  clear o1 o2
  obtain ⟨x, hx⟩ : ∃ x, (decide (0 ≤ a) && decide (a < f.rg)) = x := ⟨_, rfl⟩
  obtain ⟨y, hy⟩ : ∃ y, (b == 0) = y := ⟨_, rfl⟩
  obtain ⟨z, hz⟩ : ∃ z, (c == 0) = z := ⟨_, rfl⟩
  have cA := fun W => reg_any f (cv) a W
  rw [hx] at cA
  rw [hx] at hv
  replace hx := Lib.hid hx
  go_enter Tryz.func20, Tryz.ntmps20
  go_wp2_with fail
  refine wp_region_ext (by kernel_rfl) (by kernel_rfl) ?_
  repeat (
    first
      | go_big_quiet_skip
      | (go_big_quiet_want
         go_big_quiet_op
         first
           | go_big_quiet_on
           | (apply Exists.intro
              refine ⟨fun wq hq => ?_, ?_⟩
              focus (
                have q1 := (Ext.cells hq).1
                have q2 := (Ext.cells hq).2
                first
                  | ((go_at_call 35; exact Calls.ext_of hq ((cA _).mono fun _ _ h => ⟨h.1, h.2 ▸ (Ext.refl _).alloc _⟩)); done)
                  | (go_simp; exact rfl))
              go_big_quiet_on)))
  refine wpQuiet_nil ?_
  intro we hwe
  clear cA
  have k0 : Ext w we := ((((Ext.refl w).alloc _).alloc _).alloc _).trans hwe
  have T00 := hwe.cell (a := ⟨w.heap.size, 0, none⟩) (v := vp) (by go_simp)
  have T01 := hwe.cell (a := ⟨w.heap.size, 1, none⟩) (v := vi) (by go_simp)
  have T02 := hwe.cell (a := ⟨w.heap.size, 2, none⟩) (v := vt) (by go_simp)
  have T10 := hwe.cell (a := ⟨w.heap.size + 1, 0, none⟩) (v := .int .i64 f.pa) (by go_simp)
  have T11 := hwe.cell (a := ⟨w.heap.size + 1, 1, none⟩) (v := .int .i64 f.rg) (by go_simp)
  have T12 := hwe.cell (a := ⟨w.heap.size + 1, 2, none⟩) (v := cv) (by go_simp)
  have T20 := hwe.cell (a := ⟨w.heap.size + 1 + 1, 0, none⟩) (v := .int .i64 op) (by go_simp)
  have T21 := hwe.cell (a := ⟨w.heap.size + 1 + 1, 1, none⟩) (v := .int .i64 a) (by go_simp)
  have T22 := hwe.cell (a := ⟨w.heap.size + 1 + 1, 2, none⟩) (v := .int .i64 b) (by go_simp)
  have T23 := hwe.cell (a := ⟨w.heap.size + 1 + 1, 3, none⟩) (v := .int .i64 c) (by go_simp)
  have l0 := cell_lt T00
  have l1 := cell_lt T10
  have l2 := cell_lt T20
  simp only at l0 l1 l2
  clear hwe
  cases x
  · obtain rfl : v = false := by rw [← hv]; rfl
    clear hv
    clear hx hy hz
    go_wp2_with fail
    go_ret
    exact ⟨rfl, by first | exact k0 | exact k0.alloc _ | exact (k0.alloc _).alloc _⟩
  cases h_rb : (decide (0 ≤ b) && decide (b < f.rg))
  · rw [h_rb] at hv
    have c_rb := fun W => reg_any f (cv) b W
    rw [h_rb] at c_rb
    clear h_rb
    obtain rfl : v = false := by rw [← hv]; rfl
    clear hv
    clear hx hy hz
    go_wp2_with ((go_at_call 35; ((with_reducible refine (c_rb _).mono ?_); rintro e w' ⟨rfl, rfl⟩)))
    go_ret
    exact ⟨rfl, by first | exact k0 | exact k0.alloc _ | exact (k0.alloc _).alloc _⟩
  rw [h_rb] at hv
  cases h_rc : (decide (0 ≤ c) && decide (c < f.rg))
  · rw [h_rc] at hv
    have c_rb := fun W => reg_any f (cv) b W
    rw [h_rb] at c_rb
    clear h_rb
    have c_rc := fun W => reg_any f (cv) c W
    rw [h_rc] at c_rc
    clear h_rc
    obtain rfl : v = false := by rw [← hv]; rfl
    clear hv
    clear hx hy hz
    go_wp2_with (first | (go_at_call 35; ((with_reducible refine (c_rb _).mono ?_); rintro e w' ⟨rfl, rfl⟩)) | (go_at_call 35; ((with_reducible refine (c_rc _).mono ?_); rintro e w' ⟨rfl, rfl⟩)))
    go_ret
    exact ⟨rfl, by first | exact k0 | exact k0.alloc _ | exact (k0.alloc _).alloc _⟩
  rw [h_rc] at hv
  have c_rb := fun W => reg_any f (cv) b W
  rw [h_rb] at c_rb
  clear h_rb
  have c_rc := fun W => reg_any f (cv) c W
  rw [h_rc] at c_rc
  clear h_rc
  obtain rfl : v = true := by rw [← hv]; rfl
  clear hv
  clear hx hy hz
  go_wp2_with (first | (go_at_call 35; ((with_reducible refine (c_rb _).mono ?_); rintro e w' ⟨rfl, rfl⟩)) | (go_at_call 35; ((with_reducible refine (c_rc _).mono ?_); rintro e w' ⟨rfl, rfl⟩)))
  go_ret
  exact ⟨rfl, by first | exact k0 | exact k0.alloc _ | exact (k0.alloc _).alloc _⟩
set_option maxRecDepth 100000 in
set_option maxHeartbeats 4000000 in
theorem rin_27 (vp vi vt : Value) (q : Option Addr) (m d : Nat) (f : Pr) (a b c : Int) (w : World) (v : Bool) (hv : ((decide (0 ≤ a) && decide (a < (m : Int))) && (b == 0) && (c == 0)) = v) :
    Calls Tryz.prog 20 #[.agg #[vp, vi, vt], .agg #[.int .i64 f.pa, .int .i64 f.rg, .slice q m d], .agg #[.int .i64 27, .int .i64 a, .int .i64 b, .int .i64 c]] w fun e w' => e = .returned (.bool v) ∧ Ext w w' := by
  obtain ⟨x, hx⟩ : ∃ x, (decide (0 ≤ a) && decide (a < f.rg)) = x := ⟨_, rfl⟩
  obtain ⟨y, hy⟩ : ∃ y, (b == 0) = y := ⟨_, rfl⟩
  obtain ⟨z, hz⟩ : ∃ z, (c == 0) = z := ⟨_, rfl⟩
  have cA := fun W => reg_any f (.slice q m d) a W
  rw [hx] at cA
  replace hx := Lib.hid hx
  rw [hy] at hv
  rw [hz] at hv
  go_enter Tryz.func20, Tryz.ntmps20
  go_wp2_with fail
  refine wp_region_ext (by kernel_rfl) (by kernel_rfl) ?_
  repeat (
    first
      | go_big_quiet_skip
      | (go_big_quiet_want
         go_big_quiet_op
         first
           | go_big_quiet_on
           | (apply Exists.intro
              refine ⟨fun wq hq => ?_, ?_⟩
              focus (
                have q1 := (Ext.cells hq).1
                have q2 := (Ext.cells hq).2
                first
                  | ((go_at_call 35; exact Calls.ext_of hq ((cA _).mono fun _ _ h => ⟨h.1, h.2 ▸ (Ext.refl _).alloc _⟩)); done)
                  | (go_simp; exact rfl))
              go_big_quiet_on)))
  refine wpQuiet_nil ?_
  intro we hwe
  clear cA
  have k0 : Ext w we := ((((Ext.refl w).alloc _).alloc _).alloc _).trans hwe
  have T00 := hwe.cell (a := ⟨w.heap.size, 0, none⟩) (v := vp) (by go_simp)
  have T01 := hwe.cell (a := ⟨w.heap.size, 1, none⟩) (v := vi) (by go_simp)
  have T02 := hwe.cell (a := ⟨w.heap.size, 2, none⟩) (v := vt) (by go_simp)
  have T10 := hwe.cell (a := ⟨w.heap.size + 1, 0, none⟩) (v := .int .i64 f.pa) (by go_simp)
  have T11 := hwe.cell (a := ⟨w.heap.size + 1, 1, none⟩) (v := .int .i64 f.rg) (by go_simp)
  have T12 := hwe.cell (a := ⟨w.heap.size + 1, 2, none⟩) (v := .slice q m d) (by go_simp)
  have T20 := hwe.cell (a := ⟨w.heap.size + 1 + 1, 0, none⟩) (v := .int .i64 27) (by go_simp)
  have T21 := hwe.cell (a := ⟨w.heap.size + 1 + 1, 1, none⟩) (v := .int .i64 a) (by go_simp)
  have T22 := hwe.cell (a := ⟨w.heap.size + 1 + 1, 2, none⟩) (v := .int .i64 b) (by go_simp)
  have T23 := hwe.cell (a := ⟨w.heap.size + 1 + 1, 3, none⟩) (v := .int .i64 c) (by go_simp)
  have l0 := cell_lt T00
  have l1 := cell_lt T10
  have l2 := cell_lt T20
  simp only at l0 l1 l2
  clear hwe
  cases h_pa : (decide (0 ≤ a) && decide (a < (m : Int)))
  · rw [h_pa] at hv
    have c_pa := fun W => place_any f q d m a W
    rw [h_pa] at c_pa
    clear h_pa
    obtain rfl : v = false := by rw [← hv]; rfl
    clear hv
    clear hx hy hz
    go_wp2_with ((go_at_call 36; ((with_reducible refine (c_pa _).mono ?_); rintro e w' ⟨rfl, rfl⟩)))
    go_ret
    exact ⟨rfl, by first | exact k0 | exact k0.alloc _ | exact (k0.alloc _).alloc _⟩
  rw [h_pa] at hv
  cases y
  · have c_pa := fun W => place_any f q d m a W
    rw [h_pa] at c_pa
    clear h_pa
    obtain rfl : v = false := by rw [← hv]; rfl
    clear hv
    clear hx hy hz
    go_wp2_with ((go_at_call 36; ((with_reducible refine (c_pa _).mono ?_); rintro e w' ⟨rfl, rfl⟩)))
    go_ret
    exact ⟨rfl, by first | exact k0 | exact k0.alloc _ | exact (k0.alloc _).alloc _⟩
  cases z
  · have c_pa := fun W => place_any f q d m a W
    rw [h_pa] at c_pa
    clear h_pa
    obtain rfl : v = false := by rw [← hv]; rfl
    clear hv
    clear hx hy hz
    go_wp2_with ((go_at_call 36; ((with_reducible refine (c_pa _).mono ?_); rintro e w' ⟨rfl, rfl⟩)))
    go_ret
    exact ⟨rfl, by first | exact k0 | exact k0.alloc _ | exact (k0.alloc _).alloc _⟩
  have c_pa := fun W => place_any f q d m a W
  rw [h_pa] at c_pa
  clear h_pa
  obtain rfl : v = true := by rw [← hv]; rfl
  clear hv
  clear hx hy hz
  go_wp2_with ((go_at_call 36; ((with_reducible refine (c_pa _).mono ?_); rintro e w' ⟨rfl, rfl⟩)))
  go_ret
  exact ⟨rfl, by first | exact k0 | exact k0.alloc _ | exact (k0.alloc _).alloc _⟩
set_option maxRecDepth 100000 in
set_option maxHeartbeats 4000000 in
theorem rin_28 (vp vi vt : Value) (q : Option Addr) (m d : Nat) (f : Pr) (a b c : Int) (w : World) (v : Bool) (hv : ((decide (0 ≤ a) && decide (a < f.rg)) && (decide (0 ≤ b) && decide (b < (m : Int))) && (c == 0)) = v) :
    Calls Tryz.prog 20 #[.agg #[vp, vi, vt], .agg #[.int .i64 f.pa, .int .i64 f.rg, .slice q m d], .agg #[.int .i64 28, .int .i64 a, .int .i64 b, .int .i64 c]] w fun e w' => e = .returned (.bool v) ∧ Ext w w' := by
  obtain ⟨x, hx⟩ : ∃ x, (decide (0 ≤ a) && decide (a < f.rg)) = x := ⟨_, rfl⟩
  obtain ⟨y, hy⟩ : ∃ y, (b == 0) = y := ⟨_, rfl⟩
  obtain ⟨z, hz⟩ : ∃ z, (c == 0) = z := ⟨_, rfl⟩
  have cA := fun W => reg_any f (.slice q m d) a W
  rw [hx] at cA
  rw [hx] at hv
  replace hx := Lib.hid hx
  rw [hz] at hv
  go_enter Tryz.func20, Tryz.ntmps20
  go_wp2_with fail
  refine wp_region_ext (by kernel_rfl) (by kernel_rfl) ?_
  repeat (
    first
      | go_big_quiet_skip
      | (go_big_quiet_want
         go_big_quiet_op
         first
           | go_big_quiet_on
           | (apply Exists.intro
              refine ⟨fun wq hq => ?_, ?_⟩
              focus (
                have q1 := (Ext.cells hq).1
                have q2 := (Ext.cells hq).2
                first
                  | ((go_at_call 35; exact Calls.ext_of hq ((cA _).mono fun _ _ h => ⟨h.1, h.2 ▸ (Ext.refl _).alloc _⟩)); done)
                  | (go_simp; exact rfl))
              go_big_quiet_on)))
  refine wpQuiet_nil ?_
  intro we hwe
  clear cA
  have k0 : Ext w we := ((((Ext.refl w).alloc _).alloc _).alloc _).trans hwe
  have T00 := hwe.cell (a := ⟨w.heap.size, 0, none⟩) (v := vp) (by go_simp)
  have T01 := hwe.cell (a := ⟨w.heap.size, 1, none⟩) (v := vi) (by go_simp)
  have T02 := hwe.cell (a := ⟨w.heap.size, 2, none⟩) (v := vt) (by go_simp)
  have T10 := hwe.cell (a := ⟨w.heap.size + 1, 0, none⟩) (v := .int .i64 f.pa) (by go_simp)
  have T11 := hwe.cell (a := ⟨w.heap.size + 1, 1, none⟩) (v := .int .i64 f.rg) (by go_simp)
  have T12 := hwe.cell (a := ⟨w.heap.size + 1, 2, none⟩) (v := .slice q m d) (by go_simp)
  have T20 := hwe.cell (a := ⟨w.heap.size + 1 + 1, 0, none⟩) (v := .int .i64 28) (by go_simp)
  have T21 := hwe.cell (a := ⟨w.heap.size + 1 + 1, 1, none⟩) (v := .int .i64 a) (by go_simp)
  have T22 := hwe.cell (a := ⟨w.heap.size + 1 + 1, 2, none⟩) (v := .int .i64 b) (by go_simp)
  have T23 := hwe.cell (a := ⟨w.heap.size + 1 + 1, 3, none⟩) (v := .int .i64 c) (by go_simp)
  have l0 := cell_lt T00
  have l1 := cell_lt T10
  have l2 := cell_lt T20
  simp only at l0 l1 l2
  clear hwe
  cases x
  · obtain rfl : v = false := by rw [← hv]; rfl
    clear hv
    clear hx hy hz
    go_wp2_with fail
    go_ret
    exact ⟨rfl, by first | exact k0 | exact k0.alloc _ | exact (k0.alloc _).alloc _⟩
  cases h_pb : (decide (0 ≤ b) && decide (b < (m : Int)))
  · rw [h_pb] at hv
    have c_pb := fun W => place_any f q d m b W
    rw [h_pb] at c_pb
    clear h_pb
    obtain rfl : v = false := by rw [← hv]; rfl
    clear hv
    clear hx hy hz
    go_wp2_with ((go_at_call 36; ((with_reducible refine (c_pb _).mono ?_); rintro e w' ⟨rfl, rfl⟩)))
    go_ret
    exact ⟨rfl, by first | exact k0 | exact k0.alloc _ | exact (k0.alloc _).alloc _⟩
  rw [h_pb] at hv
  cases z
  · have c_pb := fun W => place_any f q d m b W
    rw [h_pb] at c_pb
    clear h_pb
    obtain rfl : v = false := by rw [← hv]; rfl
    clear hv
    clear hx hy hz
    go_wp2_with ((go_at_call 36; ((with_reducible refine (c_pb _).mono ?_); rintro e w' ⟨rfl, rfl⟩)))
    go_ret
    exact ⟨rfl, by first | exact k0 | exact k0.alloc _ | exact (k0.alloc _).alloc _⟩
  have c_pb := fun W => place_any f q d m b W
  rw [h_pb] at c_pb
  clear h_pb
  obtain rfl : v = true := by rw [← hv]; rfl
  clear hv
  clear hx hy hz
  go_wp2_with ((go_at_call 36; ((with_reducible refine (c_pb _).mono ?_); rintro e w' ⟨rfl, rfl⟩)))
  go_ret
  exact ⟨rfl, by first | exact k0 | exact k0.alloc _ | exact (k0.alloc _).alloc _⟩
set_option maxRecDepth 100000 in
set_option maxHeartbeats 4000000 in
theorem rin_29 (vp vi vt : Value) (q : Option Addr) (m d : Nat) (f : Pr) (a b c : Int) (w : World) (v : Bool) (hv : ((decide (0 ≤ a) && decide (a < f.rg)) && (decide (0 ≤ b) && decide (b < (m : Int))) && (c == 0)) = v) :
    Calls Tryz.prog 20 #[.agg #[vp, vi, vt], .agg #[.int .i64 f.pa, .int .i64 f.rg, .slice q m d], .agg #[.int .i64 29, .int .i64 a, .int .i64 b, .int .i64 c]] w fun e w' => e = .returned (.bool v) ∧ Ext w w' := by
  obtain ⟨x, hx⟩ : ∃ x, (decide (0 ≤ a) && decide (a < f.rg)) = x := ⟨_, rfl⟩
  obtain ⟨y, hy⟩ : ∃ y, (b == 0) = y := ⟨_, rfl⟩
  obtain ⟨z, hz⟩ : ∃ z, (c == 0) = z := ⟨_, rfl⟩
  have cA := fun W => reg_any f (.slice q m d) a W
  rw [hx] at cA
  rw [hx] at hv
  replace hx := Lib.hid hx
  rw [hz] at hv
  go_enter Tryz.func20, Tryz.ntmps20
  go_wp2_with fail
  refine wp_region_ext (by kernel_rfl) (by kernel_rfl) ?_
  repeat (
    first
      | go_big_quiet_skip
      | (go_big_quiet_want
         go_big_quiet_op
         first
           | go_big_quiet_on
           | (apply Exists.intro
              refine ⟨fun wq hq => ?_, ?_⟩
              focus (
                have q1 := (Ext.cells hq).1
                have q2 := (Ext.cells hq).2
                first
                  | ((go_at_call 35; exact Calls.ext_of hq ((cA _).mono fun _ _ h => ⟨h.1, h.2 ▸ (Ext.refl _).alloc _⟩)); done)
                  | (go_simp; exact rfl))
              go_big_quiet_on)))
  refine wpQuiet_nil ?_
  intro we hwe
  clear cA
  have k0 : Ext w we := ((((Ext.refl w).alloc _).alloc _).alloc _).trans hwe
  have T00 := hwe.cell (a := ⟨w.heap.size, 0, none⟩) (v := vp) (by go_simp)
  have T01 := hwe.cell (a := ⟨w.heap.size, 1, none⟩) (v := vi) (by go_simp)
  have T02 := hwe.cell (a := ⟨w.heap.size, 2, none⟩) (v := vt) (by go_simp)
  have T10 := hwe.cell (a := ⟨w.heap.size + 1, 0, none⟩) (v := .int .i64 f.pa) (by go_simp)
  have T11 := hwe.cell (a := ⟨w.heap.size + 1, 1, none⟩) (v := .int .i64 f.rg) (by go_simp)
  have T12 := hwe.cell (a := ⟨w.heap.size + 1, 2, none⟩) (v := .slice q m d) (by go_simp)
  have T20 := hwe.cell (a := ⟨w.heap.size + 1 + 1, 0, none⟩) (v := .int .i64 29) (by go_simp)
  have T21 := hwe.cell (a := ⟨w.heap.size + 1 + 1, 1, none⟩) (v := .int .i64 a) (by go_simp)
  have T22 := hwe.cell (a := ⟨w.heap.size + 1 + 1, 2, none⟩) (v := .int .i64 b) (by go_simp)
  have T23 := hwe.cell (a := ⟨w.heap.size + 1 + 1, 3, none⟩) (v := .int .i64 c) (by go_simp)
  have l0 := cell_lt T00
  have l1 := cell_lt T10
  have l2 := cell_lt T20
  simp only at l0 l1 l2
  clear hwe
  cases x
  · obtain rfl : v = false := by rw [← hv]; rfl
    clear hv
    clear hx hy hz
    go_wp2_with fail
    go_ret
    exact ⟨rfl, by first | exact k0 | exact k0.alloc _ | exact (k0.alloc _).alloc _⟩
  cases h_pb : (decide (0 ≤ b) && decide (b < (m : Int)))
  · rw [h_pb] at hv
    have c_pb := fun W => place_any f q d m b W
    rw [h_pb] at c_pb
    clear h_pb
    obtain rfl : v = false := by rw [← hv]; rfl
    clear hv
    clear hx hy hz
    go_wp2_with ((go_at_call 36; ((with_reducible refine (c_pb _).mono ?_); rintro e w' ⟨rfl, rfl⟩)))
    go_ret
    exact ⟨rfl, by first | exact k0 | exact k0.alloc _ | exact (k0.alloc _).alloc _⟩
  rw [h_pb] at hv
  cases z
  · have c_pb := fun W => place_any f q d m b W
    rw [h_pb] at c_pb
    clear h_pb
    obtain rfl : v = false := by rw [← hv]; rfl
    clear hv
    clear hx hy hz
    go_wp2_with ((go_at_call 36; ((with_reducible refine (c_pb _).mono ?_); rintro e w' ⟨rfl, rfl⟩)))
    go_ret
    exact ⟨rfl, by first | exact k0 | exact k0.alloc _ | exact (k0.alloc _).alloc _⟩
  have c_pb := fun W => place_any f q d m b W
  rw [h_pb] at c_pb
  clear h_pb
  obtain rfl : v = true := by rw [← hv]; rfl
  clear hv
  clear hx hy hz
  go_wp2_with ((go_at_call 36; ((with_reducible refine (c_pb _).mono ?_); rintro e w' ⟨rfl, rfl⟩)))
  go_ret
  exact ⟨rfl, by first | exact k0 | exact k0.alloc _ | exact (k0.alloc _).alloc _⟩
set_option maxRecDepth 100000 in
set_option maxHeartbeats 4000000 in
theorem rin_30 (vp vi vt : Value) (q : Option Addr) (m d : Nat) (f : Pr) (a b c : Int) (w : World) (r0 : 0 ≤ f.rg) (r1 : f.rg ≤ 500) (v : Bool) (hv : ((decide (0 ≤ a) && decide (a < f.rg)) && (decide (0 ≤ b) && decide (b < (m : Int))) && (decide (0 ≤ c) && decide (c < f.rg)) && decide (a ≤ f.rg - 3)) = v) :
    Calls Tryz.prog 20 #[.agg #[vp, vi, vt], .agg #[.int .i64 f.pa, .int .i64 f.rg, .slice q m d], .agg #[.int .i64 30, .int .i64 a, .int .i64 b, .int .i64 c]] w fun e w' => e = .returned (.bool v) ∧ Ext w w' := by
  obtain ⟨x, hx⟩ : ∃ x, (decide (0 ≤ a) && decide (a < f.rg)) = x := ⟨_, rfl⟩
  obtain ⟨y, hy⟩ : ∃ y, (b == 0) = y := ⟨_, rfl⟩
  obtain ⟨z, hz⟩ : ∃ z, (c == 0) = z := ⟨_, rfl⟩
  have cA := fun W => reg_any f (.slice q m d) a W
  rw [hx] at cA
  rw [hx] at hv
  replace hx := Lib.hid hx
  go_enter Tryz.func20, Tryz.ntmps20
  go_wp2_with fail
  refine wp_region_ext (by kernel_rfl) (by kernel_rfl) ?_
  repeat (
    first
      | go_big_quiet_skip
      | (go_big_quiet_want
         go_big_quiet_op
         first
           | go_big_quiet_on
           | (apply Exists.intro
              refine ⟨fun wq hq => ?_, ?_⟩
              focus (
                have q1 := (Ext.cells hq).1
                have q2 := (Ext.cells hq).2
                first
                  | ((go_at_call 35; exact Calls.ext_of hq ((cA _).mono fun _ _ h => ⟨h.1, h.2 ▸ (Ext.refl _).alloc _⟩)); done)
                  | (go_simp; exact rfl))
              go_big_quiet_on)))
  refine wpQuiet_nil ?_
  intro we hwe
  clear cA
  have k0 : Ext w we := ((((Ext.refl w).alloc _).alloc _).alloc _).trans hwe
  have T00 := hwe.cell (a := ⟨w.heap.size, 0, none⟩) (v := vp) (by go_simp)
  have T01 := hwe.cell (a := ⟨w.heap.size, 1, none⟩) (v := vi) (by go_simp)
  have T02 := hwe.cell (a := ⟨w.heap.size, 2, none⟩) (v := vt) (by go_simp)
  have T10 := hwe.cell (a := ⟨w.heap.size + 1, 0, none⟩) (v := .int .i64 f.pa) (by go_simp)
  have T11 := hwe.cell (a := ⟨w.heap.size + 1, 1, none⟩) (v := .int .i64 f.rg) (by go_simp)
  have T12 := hwe.cell (a := ⟨w.heap.size + 1, 2, none⟩) (v := .slice q m d) (by go_simp)
  have T20 := hwe.cell (a := ⟨w.heap.size + 1 + 1, 0, none⟩) (v := .int .i64 30) (by go_simp)
  have T21 := hwe.cell (a := ⟨w.heap.size + 1 + 1, 1, none⟩) (v := .int .i64 a) (by go_simp)
  have T22 := hwe.cell (a := ⟨w.heap.size + 1 + 1, 2, none⟩) (v := .int .i64 b) (by go_simp)
  have T23 := hwe.cell (a := ⟨w.heap.size + 1 + 1, 3, none⟩) (v := .int .i64 c) (by go_simp)
  have l0 := cell_lt T00
  have l1 := cell_lt T10
  have l2 := cell_lt T20
  simp only at l0 l1 l2
  clear hwe
  cases x
  · obtain rfl : v = false := by rw [← hv]; rfl
    clear hv
    clear hx hy hz
    go_wp2_with fail
    go_ret
    exact ⟨rfl, by first | exact k0 | exact k0.alloc _ | exact (k0.alloc _).alloc _⟩
  cases h_pb : (decide (0 ≤ b) && decide (b < (m : Int)))
  · rw [h_pb] at hv
    have c_pb := fun W => place_any f q d m b W
    rw [h_pb] at c_pb
    clear h_pb
    obtain rfl : v = false := by rw [← hv]; rfl
    clear hv
    clear hx hy hz
    go_wp2_with ((go_at_call 36; ((with_reducible refine (c_pb _).mono ?_); rintro e w' ⟨rfl, rfl⟩)))
    go_ret
    exact ⟨rfl, by first | exact k0 | exact k0.alloc _ | exact (k0.alloc _).alloc _⟩
  rw [h_pb] at hv
  cases h_rc : (decide (0 ≤ c) && decide (c < f.rg))
  · rw [h_rc] at hv
    have c_pb := fun W => place_any f q d m b W
    rw [h_pb] at c_pb
    clear h_pb
    have c_rc := fun W => reg_any f (.slice q m d) c W
    rw [h_rc] at c_rc
    clear h_rc
    obtain rfl : v = false := by rw [← hv]; rfl
    clear hv
    clear hx hy hz
    go_wp2_with (first | (go_at_call 36; ((with_reducible refine (c_pb _).mono ?_); rintro e w' ⟨rfl, rfl⟩)) | (go_at_call 35; ((with_reducible refine (c_rc _).mono ?_); rintro e w' ⟨rfl, rfl⟩)))
    go_ret
    exact ⟨rfl, by first | exact k0 | exact k0.alloc _ | exact (k0.alloc _).alloc _⟩
  rw [h_rc] at hv
  cases h_le3 : decide (a ≤ f.rg - 3)
  · rw [h_le3] at hv
    have c_pb := fun W => place_any f q d m b W
    rw [h_pb] at c_pb
    clear h_pb
    have c_rc := fun W => reg_any f (.slice q m d) c W
    rw [h_rc] at c_rc
    clear h_rc
    obtain rfl : v = false := by rw [← hv]; rfl
    clear hv
    clear hx hy hz
    go_wp2_with (first | (go_at_call 36; ((with_reducible refine (c_pb _).mono ?_); rintro e w' ⟨rfl, rfl⟩)) | (go_at_call 35; ((with_reducible refine (c_rc _).mono ?_); rintro e w' ⟨rfl, rfl⟩)))
    go_ret
    exact ⟨rfl, by first | exact k0 | exact k0.alloc _ | exact (k0.alloc _).alloc _⟩
  rw [h_le3] at hv
  have c_pb := fun W => place_any f q d m b W
  rw [h_pb] at c_pb
  clear h_pb
  have c_rc := fun W => reg_any f (.slice q m d) c W
  rw [h_rc] at c_rc
  clear h_rc
  obtain rfl : v = true := by rw [← hv]; rfl
  clear hv
  clear hx hy hz
  go_wp2_with (first | (go_at_call 36; ((with_reducible refine (c_pb _).mono ?_); rintro e w' ⟨rfl, rfl⟩)) | (go_at_call 35; ((with_reducible refine (c_rc _).mono ?_); rintro e w' ⟨rfl, rfl⟩)))
  go_ret
  exact ⟨rfl, by first | exact k0 | exact k0.alloc _ | exact (k0.alloc _).alloc _⟩
end Go.Proofs.YtfjipoijbmmjcaaGreatDoor
