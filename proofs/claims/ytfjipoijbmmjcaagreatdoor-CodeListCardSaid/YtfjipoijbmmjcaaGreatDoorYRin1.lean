/- May an instruction be: the reference's answer, operator by operator. -/
import Derived.Test.YtfjipoijbmmjcaaGreatDoorYA4
namespace Go.Proofs.YtfjipoijbmmjcaaGreatDoor
open Go.RowKit Go.BigFrame
set_option linter.unusedVariables false
set_option linter.unusedSimpArgs false

set_option maxRecDepth 100000 in
set_option maxHeartbeats 4000000 in
theorem rin_1 (vp vi vt cv : Value) (f : Pr) (a b c : Int) (w : World) (v : Bool) (hv : ((decide (0 ≤ a) && decide (a < f.rg)) && (decide (0 ≤ b) && decide (b < f.rg)) && decide (a ≤ b) && (c == 0)) = v) :
    Calls Tryz.prog 20 #[.agg #[vp, vi, vt], .agg #[.int .i64 f.pa, .int .i64 f.rg, cv], .agg #[.int .i64 1, .int .i64 a, .int .i64 b, .int .i64 c]] w fun e w' => e = .returned (.bool v) ∧ Ext w w' := by
  obtain ⟨x, hx⟩ : ∃ x, (decide (0 ≤ a) && decide (a < f.rg)) = x := ⟨_, rfl⟩
  obtain ⟨y, hy⟩ : ∃ y, (b == 0) = y := ⟨_, rfl⟩
  obtain ⟨z, hz⟩ : ∃ z, (c == 0) = z := ⟨_, rfl⟩
  have cA := fun W => reg_any f (cv) a W
  rw [hx] at cA
  rw [hx] at hv
  replace hx := Lib.hid hx
  rw [hz] at hv
  go_enter Tryz.func20, Tryz.ntmps20
  go_wp2_with fail
  refine wp_region_ext (by kernel_rfl) (by kernel_rfl) ?_
  repeat (
    first
      | go_big_quiet_skip
      | (go_big_quiet_want
         go_big_quiet_op
         first
           | go_big_quiet_on
           | (apply Exists.intro
              refine ⟨fun wq hq => ?_, ?_⟩
              focus (
                have q1 := (Ext.cells hq).1
                have q2 := (Ext.cells hq).2
                first
                  | ((go_at_call 35; exact Calls.ext_of hq ((cA _).mono fun _ _ h => ⟨h.1, h.2 ▸ (Ext.refl _).alloc _⟩)); done)
                  | (go_simp; exact rfl))
              go_big_quiet_on)))
  refine wpQuiet_nil ?_
  intro we hwe
  clear cA
  have k0 : Ext w we := ((((Ext.refl w).alloc _).alloc _).alloc _).trans hwe
  have T00 := hwe.cell (a := ⟨w.heap.size, 0, none⟩) (v := vp) (by go_simp)
  have T01 := hwe.cell (a := ⟨w.heap.size, 1, none⟩) (v := vi) (by go_simp)
  have T02 := hwe.cell (a := ⟨w.heap.size, 2, none⟩) (v := vt) (by go_simp)
  have T10 := hwe.cell (a := ⟨w.heap.size + 1, 0, none⟩) (v := .int .i64 f.pa) (by go_simp)
  have T11 := hwe.cell (a := ⟨w.heap.size + 1, 1, none⟩) (v := .int .i64 f.rg) (by go_simp)
  have T12 := hwe.cell (a := ⟨w.heap.size + 1, 2, none⟩) (v := cv) (by go_simp)
  have T20 := hwe.cell (a := ⟨w.heap.size + 1 + 1, 0, none⟩) (v := .int .i64 1) (by go_simp)
  have T21 := hwe.cell (a := ⟨w.heap.size + 1 + 1, 1, none⟩) (v := .int .i64 a) (by go_simp)
  have T22 := hwe.cell (a := ⟨w.heap.size + 1 + 1, 2, none⟩) (v := .int .i64 b) (by go_simp)
  have T23 := hwe.cell (a := ⟨w.heap.size + 1 + 1, 3, none⟩) (v := .int .i64 c) (by go_simp)
  have l0 := cell_lt T00
  have l1 := cell_lt T10
  have l2 := cell_lt T20
  simp only at l0 l1 l2
  clear hwe
  cases x
  · obtain rfl : v = false := by rw [← hv]; rfl
    clear hv
    clear hx hy hz
    go_wp2_with fail
    go_ret
    exact ⟨rfl, by first | exact k0 | exact k0.alloc _ | exact (k0.alloc _).alloc _⟩
  cases h_rb : (decide (0 ≤ b) && decide (b < f.rg))
  · rw [h_rb] at hv
    have c_rb := fun W => reg_any f (cv) b W
    rw [h_rb] at c_rb
    clear h_rb
    obtain rfl : v = false := by rw [← hv]; rfl
    clear hv
    clear hx hy hz
    go_wp2_with ((go_at_call 35; ((with_reducible refine (c_rb _).mono ?_); rintro e w' ⟨rfl, rfl⟩)))
    go_ret
    exact ⟨rfl, by first | exact k0 | exact k0.alloc _ | exact (k0.alloc _).alloc _⟩
  rw [h_rb] at hv
  cases h_ge : decide (a ≤ b)
  · rw [h_ge] at hv
    have c_rb := fun W => reg_any f (cv) b W
    rw [h_rb] at c_rb
    clear h_rb
    obtain rfl : v = false := by rw [← hv]; rfl
    clear hv
    clear hx hy hz
    go_wp2_with ((go_at_call 35; ((with_reducible refine (c_rb _).mono ?_); rintro e w' ⟨rfl, rfl⟩)))
    go_ret
    exact ⟨rfl, by first | exact k0 | exact k0.alloc _ | exact (k0.alloc _).alloc _⟩
  rw [h_ge] at hv
  cases z
  · have c_rb := fun W => reg_any f (cv) b W
    rw [h_rb] at c_rb
    clear h_rb
    obtain rfl : v = false := by rw [← hv]; rfl
    clear hv
    clear hx hy hz
    go_wp2_with ((go_at_call 35; ((with_reducible refine (c_rb _).mono ?_); rintro e w' ⟨rfl, rfl⟩)))
    go_ret
    exact ⟨rfl, by first | exact k0 | exact k0.alloc _ | exact (k0.alloc _).alloc _⟩
  have c_rb := fun W => reg_any f (cv) b W
  rw [h_rb] at c_rb
  clear h_rb
  obtain rfl : v = true := by rw [← hv]; rfl
  clear hv
  clear hx hy hz
  go_wp2_with ((go_at_call 35; ((with_reducible refine (c_rb _).mono ?_); rintro e w' ⟨rfl, rfl⟩)))
  go_ret
  exact ⟨rfl, by first | exact k0 | exact k0.alloc _ | exact (k0.alloc _).alloc _⟩
set_option maxRecDepth 100000 in
set_option maxHeartbeats 4000000 in
theorem rin_2 (vp vi vt cv : Value) (f : Pr) (a b c : Int) (w : World) (v : Bool) (hv : ((decide (0 ≤ a) && decide (a < f.rg)) && (b == 0) && (c == 0)) = v) :
    Calls Tryz.prog 20 #[.agg #[vp, vi, vt], .agg #[.int .i64 f.pa, .int .i64 f.rg, cv], .agg #[.int .i64 2, .int .i64 a, .int .i64 b, .int .i64 c]] w fun e w' => e = .returned (.bool v) ∧ Ext w w' := by
  obtain ⟨x, hx⟩ : ∃ x, (decide (0 ≤ a) && decide (a < f.rg)) = x := ⟨_, rfl⟩
  obtain ⟨y, hy⟩ : ∃ y, (b == 0) = y := ⟨_, rfl⟩
  obtain ⟨z, hz⟩ : ∃ z, (c == 0) = z := ⟨_, rfl⟩
  have cA := fun W => reg_any f (cv) a W
  rw [hx] at cA
  rw [hx] at hv
  replace hx := Lib.hid hx
  rw [hy] at hv
  rw [hz] at hv
  go_enter Tryz.func20, Tryz.ntmps20
  go_wp2_with fail
  refine wp_region_ext (by kernel_rfl) (by kernel_rfl) ?_
  repeat (
    first
      | go_big_quiet_skip
      | (go_big_quiet_want
         go_big_quiet_op
         first
           | go_big_quiet_on
           | (apply Exists.intro
              refine ⟨fun wq hq => ?_, ?_⟩
              focus (
                have q1 := (Ext.cells hq).1
                have q2 := (Ext.cells hq).2
                first
                  | ((go_at_call 35; exact Calls.ext_of hq ((cA _).mono fun _ _ h => ⟨h.1, h.2 ▸ (Ext.refl _).alloc _⟩)); done)
                  | (go_simp; exact rfl))
              go_big_quiet_on)))
  refine wpQuiet_nil ?_
  intro we hwe
  clear cA
  have k0 : Ext w we := ((((Ext.refl w).alloc _).alloc _).alloc _).trans hwe
  have T00 := hwe.cell (a := ⟨w.heap.size, 0, none⟩) (v := vp) (by go_simp)
  have T01 := hwe.cell (a := ⟨w.heap.size, 1, none⟩) (v := vi) (by go_simp)
  have T02 := hwe.cell (a := ⟨w.heap.size, 2, none⟩) (v := vt) (by go_simp)
  have T10 := hwe.cell (a := ⟨w.heap.size + 1, 0, none⟩) (v := .int .i64 f.pa) (by go_simp)
  have T11 := hwe.cell (a := ⟨w.heap.size + 1, 1, none⟩) (v := .int .i64 f.rg) (by go_simp)
  have T12 := hwe.cell (a := ⟨w.heap.size + 1, 2, none⟩) (v := cv) (by go_simp)
  have T20 := hwe.cell (a := ⟨w.heap.size + 1 + 1, 0, none⟩) (v := .int .i64 2) (by go_simp)
  have T21 := hwe.cell (a := ⟨w.heap.size + 1 + 1, 1, none⟩) (v := .int .i64 a) (by go_simp)
  have T22 := hwe.cell (a := ⟨w.heap.size + 1 + 1, 2, none⟩) (v := .int .i64 b) (by go_simp)
  have T23 := hwe.cell (a := ⟨w.heap.size + 1 + 1, 3, none⟩) (v := .int .i64 c) (by go_simp)
  have l0 := cell_lt T00
  have l1 := cell_lt T10
  have l2 := cell_lt T20
  simp only at l0 l1 l2
  clear hwe
  cases x
  · obtain rfl : v = false := by rw [← hv]; rfl
    clear hv
    clear hx hy hz
    go_wp2_with fail
    go_ret
    exact ⟨rfl, by first | exact k0 | exact k0.alloc _ | exact (k0.alloc _).alloc _⟩
  cases y
  · obtain rfl : v = false := by rw [← hv]; rfl
    clear hv
    clear hx hy hz
    go_wp2_with fail
    go_ret
    exact ⟨rfl, by first | exact k0 | exact k0.alloc _ | exact (k0.alloc _).alloc _⟩
  cases z
  · obtain rfl : v = false := by rw [← hv]; rfl
    clear hv
    clear hx hy hz
    go_wp2_with fail
    go_ret
    exact ⟨rfl, by first | exact k0 | exact k0.alloc _ | exact (k0.alloc _).alloc _⟩
  obtain rfl : v = true := by rw [← hv]; rfl
  clear hv
  clear hx hy hz
  go_wp2_with fail
  go_ret
  exact ⟨rfl, by first | exact k0 | exact k0.alloc _ | exact (k0.alloc _).alloc _⟩
set_option maxRecDepth 100000 in
set_option maxHeartbeats 4000000 in
theorem rin_3 (vp vi vt cv : Value) (f : Pr) (a b c : Int) (w : World) (v : Bool) (hv : ((decide (0 ≤ a) && decide (a < f.rg)) && (b == 0) && (c == 0)) = v) :
    Calls Tryz.prog 20 #[.agg #[vp, vi, vt], .agg #[.int .i64 f.pa, .int .i64 f.rg, cv], .agg #[.int .i64 3, .int .i64 a, .int .i64 b, .int .i64 c]] w fun e w' => e = .returned (.bool v) ∧ Ext w w' := by
  obtain ⟨x, hx⟩ : ∃ x, (decide (0 ≤ a) && decide (a < f.rg)) = x := ⟨_, rfl⟩
  obtain ⟨y, hy⟩ : ∃ y, (b == 0) = y := ⟨_, rfl⟩
  obtain ⟨z, hz⟩ : ∃ z, (c == 0) = z := ⟨_, rfl⟩
  have cA := fun W => reg_any f (cv) a W
  rw [hx] at cA
  rw [hx] at hv
  replace hx := Lib.hid hx
  rw [hy] at hv
  rw [hz] at hv
  go_enter Tryz.func20, Tryz.ntmps20
  go_wp2_with fail
  refine wp_region_ext (by kernel_rfl) (by kernel_rfl) ?_
  repeat (
    first
      | go_big_quiet_skip
      | (go_big_quiet_want
         go_big_quiet_op
         first
           | go_big_quiet_on
           | (apply Exists.intro
              refine ⟨fun wq hq => ?_, ?_⟩
              focus (
                have q1 := (Ext.cells hq).1
                have q2 := (Ext.cells hq).2
                first
                  | ((go_at_call 35; exact Calls.ext_of hq ((cA _).mono fun _ _ h => ⟨h.1, h.2 ▸ (Ext.refl _).alloc _⟩)); done)
                  | (go_simp; exact rfl))
              go_big_quiet_on)))
  refine wpQuiet_nil ?_
  intro we hwe
  clear cA
  have k0 : Ext w we := ((((Ext.refl w).alloc _).alloc _).alloc _).trans hwe
  have T00 := hwe.cell (a := ⟨w.heap.size, 0, none⟩) (v := vp) (by go_simp)
  have T01 := hwe.cell (a := ⟨w.heap.size, 1, none⟩) (v := vi) (by go_simp)
  have T02 := hwe.cell (a := ⟨w.heap.size, 2, none⟩) (v := vt) (by go_simp)
  have T10 := hwe.cell (a := ⟨w.heap.size + 1, 0, none⟩) (v := .int .i64 f.pa) (by go_simp)
  have T11 := hwe.cell (a := ⟨w.heap.size + 1, 1, none⟩) (v := .int .i64 f.rg) (by go_simp)
  have T12 := hwe.cell (a := ⟨w.heap.size + 1, 2, none⟩) (v := cv) (by go_simp)
  have T20 := hwe.cell (a := ⟨w.heap.size + 1 + 1, 0, none⟩) (v := .int .i64 3) (by go_simp)
  have T21 := hwe.cell (a := ⟨w.heap.size + 1 + 1, 1, none⟩) (v := .int .i64 a) (by go_simp)
  have T22 := hwe.cell (a := ⟨w.heap.size + 1 + 1, 2, none⟩) (v := .int .i64 b) (by go_simp)
  have T23 := hwe.cell (a := ⟨w.heap.size + 1 + 1, 3, none⟩) (v := .int .i64 c) (by go_simp)
  have l0 := cell_lt T00
  have l1 := cell_lt T10
  have l2 := cell_lt T20
  simp only at l0 l1 l2
  clear hwe
  cases x
  · obtain rfl : v = false := by rw [← hv]; rfl
    clear hv
    clear hx hy hz
    go_wp2_with fail
    go_ret
    exact ⟨rfl, by first | exact k0 | exact k0.alloc _ | exact (k0.alloc _).alloc _⟩
  cases y
  · obtain rfl : v = false := by rw [← hv]; rfl
    clear hv
    clear hx hy hz
    go_wp2_with fail
    go_ret
    exact ⟨rfl, by first | exact k0 | exact k0.alloc _ | exact (k0.alloc _).alloc _⟩
  cases z
  · obtain rfl : v = false := by rw [← hv]; rfl
    clear hv
    clear hx hy hz
    go_wp2_with fail
    go_ret
    exact ⟨rfl, by first | exact k0 | exact k0.alloc _ | exact (k0.alloc _).alloc _⟩
  obtain rfl : v = true := by rw [← hv]; rfl
  clear hv
  clear hx hy hz
  go_wp2_with fail
  go_ret
  exact ⟨rfl, by first | exact k0 | exact k0.alloc _ | exact (k0.alloc _).alloc _⟩
set_option maxRecDepth 100000 in
set_option maxHeartbeats 4000000 in
theorem rin_7 (vp vi vt cv : Value) (f : Pr) (a b c : Int) (w : World) (v : Bool) (hv : ((decide (0 ≤ a) && decide (a < f.rg)) && (b == 0) && (c == 0)) = v) :
    Calls Tryz.prog 20 #[.agg #[vp, vi, vt], .agg #[.int .i64 f.pa, .int .i64 f.rg, cv], .agg #[.int .i64 7, .int .i64 a, .int .i64 b, .int .i64 c]] w fun e w' => e = .returned (.bool v) ∧ Ext w w' := by
  obtain ⟨x, hx⟩ : ∃ x, (decide (0 ≤ a) && decide (a < f.rg)) = x := ⟨_, rfl⟩
  obtain ⟨y, hy⟩ : ∃ y, (b == 0) = y := ⟨_, rfl⟩
  obtain ⟨z, hz⟩ : ∃ z, (c == 0) = z := ⟨_, rfl⟩
  have cA := fun W => reg_any f (cv) a W
  rw [hx] at cA
  rw [hx] at hv
  replace hx := Lib.hid hx
  rw [hy] at hv
  rw [hz] at hv
  go_enter Tryz.func20, Tryz.ntmps20
  go_wp2_with fail
  refine wp_region_ext (by kernel_rfl) (by kernel_rfl) ?_
  repeat (
    first
      | go_big_quiet_skip
      | (go_big_quiet_want
         go_big_quiet_op
         first
           | go_big_quiet_on
           | (apply Exists.intro
              refine ⟨fun wq hq => ?_, ?_⟩
              focus (
                have q1 := (Ext.cells hq).1
                have q2 := (Ext.cells hq).2
                first
                  | ((go_at_call 35; exact Calls.ext_of hq ((cA _).mono fun _ _ h => ⟨h.1, h.2 ▸ (Ext.refl _).alloc _⟩)); done)
                  | (go_simp; exact rfl))
              go_big_quiet_on)))
  refine wpQuiet_nil ?_
  intro we hwe
  clear cA
  have k0 : Ext w we := ((((Ext.refl w).alloc _).alloc _).alloc _).trans hwe
  have T00 := hwe.cell (a := ⟨w.heap.size, 0, none⟩) (v := vp) (by go_simp)
  have T01 := hwe.cell (a := ⟨w.heap.size, 1, none⟩) (v := vi) (by go_simp)
  have T02 := hwe.cell (a := ⟨w.heap.size, 2, none⟩) (v := vt) (by go_simp)
  have T10 := hwe.cell (a := ⟨w.heap.size + 1, 0, none⟩) (v := .int .i64 f.pa) (by go_simp)
  have T11 := hwe.cell (a := ⟨w.heap.size + 1, 1, none⟩) (v := .int .i64 f.rg) (by go_simp)
  have T12 := hwe.cell (a := ⟨w.heap.size + 1, 2, none⟩) (v := cv) (by go_simp)
  have T20 := hwe.cell (a := ⟨w.heap.size + 1 + 1, 0, none⟩) (v := .int .i64 7) (by go_simp)
  have T21 := hwe.cell (a := ⟨w.heap.size + 1 + 1, 1, none⟩) (v := .int .i64 a) (by go_simp)
  have T22 := hwe.cell (a := ⟨w.heap.size + 1 + 1, 2, none⟩) (v := .int .i64 b) (by go_simp)
  have T23 := hwe.cell (a := ⟨w.heap.size + 1 + 1, 3, none⟩) (v := .int .i64 c) (by go_simp)
  have l0 := cell_lt T00
  have l1 := cell_lt T10
  have l2 := cell_lt T20
  simp only at l0 l1 l2
  clear hwe
  cases x
  · obtain rfl : v = false := by rw [← hv]; rfl
    clear hv
    clear hx hy hz
    go_wp2_with fail
    go_ret
    exact ⟨rfl, by first | exact k0 | exact k0.alloc _ | exact (k0.alloc _).alloc _⟩
  cases y
  · obtain rfl : v = false := by rw [← hv]; rfl
    clear hv
    clear hx hy hz
    go_wp2_with fail
    go_ret
    exact ⟨rfl, by first | exact k0 | exact k0.alloc _ | exact (k0.alloc _).alloc _⟩
  cases z
  · obtain rfl : v = false := by rw [← hv]; rfl
    clear hv
    clear hx hy hz
    go_wp2_with fail
    go_ret
    exact ⟨rfl, by first | exact k0 | exact k0.alloc _ | exact (k0.alloc _).alloc _⟩
  obtain rfl : v = true := by rw [← hv]; rfl
  clear hv
  clear hx hy hz
  go_wp2_with fail
  go_ret
  exact ⟨rfl, by first | exact k0 | exact k0.alloc _ | exact (k0.alloc _).alloc _⟩
set_option maxRecDepth 100000 in
set_option maxHeartbeats 4000000 in
theorem rin_8 (vp vi vt cv : Value) (f : Pr) (a b c : Int) (w : World) (v : Bool) (hv : ((decide (0 ≤ a) && decide (a < f.rg)) && (b == 0) && (c == 0)) = v) :
    Calls Tryz.prog 20 #[.agg #[vp, vi, vt], .agg #[.int .i64 f.pa, .int .i64 f.rg, cv], .agg #[.int .i64 8, .int .i64 a, .int .i64 b, .int .i64 c]] w fun e w' => e = .returned (.bool v) ∧ Ext w w' := by
  obtain ⟨x, hx⟩ : ∃ x, (decide (0 ≤ a) && decide (a < f.rg)) = x := ⟨_, rfl⟩
  obtain ⟨y, hy⟩ : ∃ y, (b == 0) = y := ⟨_, rfl⟩
  obtain ⟨z, hz⟩ : ∃ z, (c == 0) = z := ⟨_, rfl⟩
  have cA := fun W => reg_any f (cv) a W
  rw [hx] at cA
  rw [hx] at hv
  replace hx := Lib.hid hx
  rw [hy] at hv
  rw [hz] at hv
  go_enter Tryz.func20, Tryz.ntmps20
  go_wp2_with fail
  refine wp_region_ext (by kernel_rfl) (by kernel_rfl) ?_
  repeat (
    first
      | go_big_quiet_skip
      | (go_big_quiet_want
         go_big_quiet_op
         first
           | go_big_quiet_on
           | (apply Exists.intro
              refine ⟨fun wq hq => ?_, ?_⟩
              focus (
                have q1 := (Ext.cells hq).1
                have q2 := (Ext.cells hq).2
                first
                  | ((go_at_call 35; exact Calls.ext_of hq ((cA _).mono fun _ _ h => ⟨h.1, h.2 ▸ (Ext.refl _).alloc _⟩)); done)
                  | (go_simp; exact rfl))
              go_big_quiet_on)))
  refine wpQuiet_nil ?_
  intro we hwe
  clear cA
  have k0 : Ext w we := ((((Ext.refl w).alloc _).alloc _).alloc _).trans hwe
  have T00 := hwe.cell (a := ⟨w.heap.size, 0, none⟩) (v := vp) (by go_simp)
  have T01 := hwe.cell (a := ⟨w.heap.size, 1, none⟩) (v := vi) (by go_simp)
  have T02 := hwe.cell (a := ⟨w.heap.size, 2, none⟩) (v := vt) (by go_simp)
  have T10 := hwe.cell (a := ⟨w.heap.size + 1, 0, none⟩) (v := .int .i64 f.pa) (by go_simp)
  have T11 := hwe.cell (a := ⟨w.heap.size + 1, 1, none⟩) (v := .int .i64 f.rg) (by go_simp)
  have T12 := hwe.cell (a := ⟨w.heap.size + 1, 2, none⟩) (v := cv) (by go_simp)
  have T20 := hwe.cell (a := ⟨w.heap.size + 1 + 1, 0, none⟩) (v := .int .i64 8) (by go_simp)
  have T21 := hwe.cell (a := ⟨w.heap.size + 1 + 1, 1, none⟩) (v := .int .i64 a) (by go_simp)
  have T22 := hwe.cell (a := ⟨w.heap.size + 1 + 1, 2, none⟩) (v := .int .i64 b) (by go_simp)
  have T23 := hwe.cell (a := ⟨w.heap.size + 1 + 1, 3, none⟩) (v := .int .i64 c) (by go_simp)
  have l0 := cell_lt T00
  have l1 := cell_lt T10
  have l2 := cell_lt T20
  simp only at l0 l1 l2
  clear hwe
  cases x
  · obtain rfl : v = false := by rw [← hv]; rfl
    clear hv
    clear hx hy hz
    go_wp2_with fail
    go_ret
    exact ⟨rfl, by first | exact k0 | exact k0.alloc _ | exact (k0.alloc _).alloc _⟩
  cases y
  · obtain rfl : v = false := by rw [← hv]; rfl
    clear hv
    clear hx hy hz
    go_wp2_with fail
    go_ret
    exact ⟨rfl, by first | exact k0 | exact k0.alloc _ | exact (k0.alloc _).alloc _⟩
  cases z
  · obtain rfl : v = false := by rw [← hv]; rfl
    clear hv
    clear hx hy hz
    go_wp2_with fail
    go_ret
    exact ⟨rfl, by first | exact k0 | exact k0.alloc _ | exact (k0.alloc _).alloc _⟩
  obtain rfl : v = true := by rw [← hv]; rfl
  clear hv
  clear hx hy hz
  go_wp2_with fail
  go_ret
  exact ⟨rfl, by first | exact k0 | exact k0.alloc _ | exact (k0.alloc _).alloc _⟩
set_option maxRecDepth 100000 in
set_option maxHeartbeats 4000000 in
theorem rin_9 (vp vi vt cv : Value) (f : Pr) (a b c : Int) (w : World) (v : Bool) (hv : ((decide (0 ≤ a) && decide (a < f.rg)) && (b == 0) && (c == 0)) = v) :
    Calls Tryz.prog 20 #[.agg #[vp, vi, vt], .agg #[.int .i64 f.pa, .int .i64 f.rg, cv], .agg #[.int .i64 9, .int .i64 a, .int .i64 b, .int .i64 c]] w fun e w' => e = .returned (.bool v) ∧ Ext w w' := by
  obtain ⟨x, hx⟩ : ∃ x, (decide (0 ≤ a) && decide (a < f.rg)) = x := ⟨_, rfl⟩
  obtain ⟨y, hy⟩ : ∃ y, (b == 0) = y := ⟨_, rfl⟩
  obtain ⟨z, hz⟩ : ∃ z, (c == 0) = z := ⟨_, rfl⟩
  have cA := fun W => reg_any f (cv) a W
  rw [hx] at cA
  rw [hx] at hv
  replace hx := Lib.hid hx
  rw [hy] at hv
  rw [hz] at hv
  go_enter Tryz.func20, Tryz.ntmps20
  go_wp2_with fail
  refine wp_region_ext (by kernel_rfl) (by kernel_rfl) ?_
  repeat (
    first
      | go_big_quiet_skip
      | (go_big_quiet_want
         go_big_quiet_op
         first
           | go_big_quiet_on
           | (apply Exists.intro
              refine ⟨fun wq hq => ?_, ?_⟩
              focus (
                have q1 := (Ext.cells hq).1
                have q2 := (Ext.cells hq).2
                first
                  | ((go_at_call 35; exact Calls.ext_of hq ((cA _).mono fun _ _ h => ⟨h.1, h.2 ▸ (Ext.refl _).alloc _⟩)); done)
                  | (go_simp; exact rfl))
              go_big_quiet_on)))
  refine wpQuiet_nil ?_
  intro we hwe
  clear cA
  have k0 : Ext w we := ((((Ext.refl w).alloc _).alloc _).alloc _).trans hwe
  have T00 := hwe.cell (a := ⟨w.heap.size, 0, none⟩) (v := vp) (by go_simp)
  have T01 := hwe.cell (a := ⟨w.heap.size, 1, none⟩) (v := vi) (by go_simp)
  have T02 := hwe.cell (a := ⟨w.heap.size, 2, none⟩) (v := vt) (by go_simp)
  have T10 := hwe.cell (a := ⟨w.heap.size + 1, 0, none⟩) (v := .int .i64 f.pa) (by go_simp)
  have T11 := hwe.cell (a := ⟨w.heap.size + 1, 1, none⟩) (v := .int .i64 f.rg) (by go_simp)
  have T12 := hwe.cell (a := ⟨w.heap.size + 1, 2, none⟩) (v := cv) (by go_simp)
  have T20 := hwe.cell (a := ⟨w.heap.size + 1 + 1, 0, none⟩) (v := .int .i64 9) (by go_simp)
  have T21 := hwe.cell (a := ⟨w.heap.size + 1 + 1, 1, none⟩) (v := .int .i64 a) (by go_simp)
  have T22 := hwe.cell (a := ⟨w.heap.size + 1 + 1, 2, none⟩) (v := .int .i64 b) (by go_simp)
  have T23 := hwe.cell (a := ⟨w.heap.size + 1 + 1, 3, none⟩) (v := .int .i64 c) (by go_simp)
  have l0 := cell_lt T00
  have l1 := cell_lt T10
  have l2 := cell_lt T20
  simp only at l0 l1 l2
  clear hwe
  cases x
  · obtain rfl : v = false := by rw [← hv]; rfl
    clear hv
    clear hx hy hz
    go_wp2_with fail
    go_ret
    exact ⟨rfl, by first | exact k0 | exact k0.alloc _ | exact (k0.alloc _).alloc _⟩
  cases y
  · obtain rfl : v = false := by rw [← hv]; rfl
    clear hv
    clear hx hy hz
    go_wp2_with fail
    go_ret
    exact ⟨rfl, by first | exact k0 | exact k0.alloc _ | exact (k0.alloc _).alloc _⟩
  cases z
  · obtain rfl : v = false := by rw [← hv]; rfl
    clear hv
    clear hx hy hz
    go_wp2_with fail
    go_ret
    exact ⟨rfl, by first | exact k0 | exact k0.alloc _ | exact (k0.alloc _).alloc _⟩
  obtain rfl : v = true := by rw [← hv]; rfl
  clear hv
  clear hx hy hz
  go_wp2_with fail
  go_ret
  exact ⟨rfl, by first | exact k0 | exact k0.alloc _ | exact (k0.alloc _).alloc _⟩
end Go.Proofs.YtfjipoijbmmjcaaGreatDoor
