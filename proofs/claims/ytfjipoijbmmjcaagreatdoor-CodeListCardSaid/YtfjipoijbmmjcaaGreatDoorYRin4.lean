/- May an instruction be: the reference's answer, operator by operator. -/
import Derived.Test.YtfjipoijbmmjcaaGreatDoorYA4
namespace Go.Proofs.YtfjipoijbmmjcaaGreatDoor
open Go.RowKit Go.BigFrame
set_option linter.unusedVariables false
set_option linter.unusedSimpArgs false

theorem ne_lo4 {op k : Int} (h : op < 1) (hk : 1 ≤ k) : (op == k) = false := by rw [beq_eq_false_iff_ne]; omega
theorem ne_hi4 {op k : Int} (h : 35 < op) (hk : k ≤ 35) : (op == k) = false := by rw [beq_eq_false_iff_ne]; omega
set_option maxRecDepth 100000 in
set_option maxHeartbeats 4000000 in
theorem rin_31 (vp vi vt : Value) (q : Option Addr) (m d : Nat) (f : Pr) (a b c : Int) (w : World) (r0 : 0 ≤ f.rg) (r1 : f.rg ≤ 500) (v : Bool) (hv : ((decide (0 ≤ a) && decide (a < f.rg)) && (decide (0 ≤ b) && decide (b < (m : Int))) && (decide (0 ≤ c) && decide (c < f.rg)) && decide (a ≤ f.rg - 3)) = v) :
    Calls Tryz.prog 20 #[.agg #[vp, vi, vt], .agg #[.int .i64 f.pa, .int .i64 f.rg, .slice q m d], .agg #[.int .i64 31, .int .i64 a, .int .i64 b, .int .i64 c]] w fun e w' => e = .returned (.bool v) ∧ Ext w w' := by
  obtain ⟨x, hx⟩ : ∃ x, (decide (0 ≤ a) && decide (a < f.rg)) = x := ⟨_, rfl⟩
  obtain ⟨y, hy⟩ : ∃ y, (b == 0) = y := ⟨_, rfl⟩
  obtain ⟨z, hz⟩ : ∃ z, (c == 0) = z := ⟨_, rfl⟩
  have cA := fun W => reg_any f (.slice q m d) a W
  rw [hx] at cA
  rw [hx] at hv
  replace hx := Lib.hid hx
  go_enter Tryz.func20, Tryz.ntmps20
  go_wp2_with fail
  refine wp_region_ext (by kernel_rfl) (by kernel_rfl) ?_
  repeat (
    first
      | go_big_quiet_skip
      | (go_big_quiet_want
         go_big_quiet_op
         first
           | go_big_quiet_on
           | (apply Exists.intro
              refine ⟨fun wq hq => ?_, ?_⟩
              focus (
                have q1 := (Ext.cells hq).1
                have q2 := (Ext.cells hq).2
                first
                  | ((go_at_call 35; exact Calls.ext_of hq ((cA _).mono fun _ _ h => ⟨h.1, h.2 ▸ (Ext.refl _).alloc _⟩)); done)
                  | (go_simp; exact rfl))
              go_big_quiet_on)))
  refine wpQuiet_nil ?_
  intro we hwe
  clear cA
  have k0 : Ext w we := ((((Ext.refl w).alloc _).alloc _).alloc _).trans hwe
  have T00 := hwe.cell (a := ⟨w.heap.size, 0, none⟩) (v := vp) (by go_simp)
  have T01 := hwe.cell (a := ⟨w.heap.size, 1, none⟩) (v := vi) (by go_simp)
  have T02 := hwe.cell (a := ⟨w.heap.size, 2, none⟩) (v := vt) (by go_simp)
  have T10 := hwe.cell (a := ⟨w.heap.size + 1, 0, none⟩) (v := .int .i64 f.pa) (by go_simp)
  have T11 := hwe.cell (a := ⟨w.heap.size + 1, 1, none⟩) (v := .int .i64 f.rg) (by go_simp)
  have T12 := hwe.cell (a := ⟨w.heap.size + 1, 2, none⟩) (v := .slice q m d) (by go_simp)
  have T20 := hwe.cell (a := ⟨w.heap.size + 1 + 1, 0, none⟩) (v := .int .i64 31) (by go_simp)
  have T21 := hwe.cell (a := ⟨w.heap.size + 1 + 1, 1, none⟩) (v := .int .i64 a) (by go_simp)
  have T22 := hwe.cell (a := ⟨w.heap.size + 1 + 1, 2, none⟩) (v := .int .i64 b) (by go_simp)
  have T23 := hwe.cell (a := ⟨w.heap.size + 1 + 1, 3, none⟩) (v := .int .i64 c) (by go_simp)
  have l0 := cell_lt T00
  have l1 := cell_lt T10
  have l2 := cell_lt T20
  simp only at l0 l1 l2
  clear hwe
  cases x
  · obtain rfl : v = false := by rw [← hv]; rfl
    clear hv
    clear hx hy hz
    go_wp2_with fail
    go_ret
    exact ⟨rfl, by first | exact k0 | exact k0.alloc _ | exact (k0.alloc _).alloc _⟩
  cases h_pb : (decide (0 ≤ b) && decide (b < (m : Int)))
  · rw [h_pb] at hv
    have c_pb := fun W => place_any f q d m b W
    rw [h_pb] at c_pb
    clear h_pb
    obtain rfl : v = false := by rw [← hv]; rfl
    clear hv
    clear hx hy hz
    go_wp2_with ((go_at_call 36; ((with_reducible refine (c_pb _).mono ?_); rintro e w' ⟨rfl, rfl⟩)))
    go_ret
    exact ⟨rfl, by first | exact k0 | exact k0.alloc _ | exact (k0.alloc _).alloc _⟩
  rw [h_pb] at hv
  cases h_rc : (decide (0 ≤ c) && decide (c < f.rg))
  · rw [h_rc] at hv
    have c_pb := fun W => place_any f q d m b W
    rw [h_pb] at c_pb
    clear h_pb
    have c_rc := fun W => reg_any f (.slice q m d) c W
    rw [h_rc] at c_rc
    clear h_rc
    obtain rfl : v = false := by rw [← hv]; rfl
    clear hv
    clear hx hy hz
    go_wp2_with (first | (go_at_call 36; ((with_reducible refine (c_pb _).mono ?_); rintro e w' ⟨rfl, rfl⟩)) | (go_at_call 35; ((with_reducible refine (c_rc _).mono ?_); rintro e w' ⟨rfl, rfl⟩)))
    go_ret
    exact ⟨rfl, by first | exact k0 | exact k0.alloc _ | exact (k0.alloc _).alloc _⟩
  rw [h_rc] at hv
  cases h_le3 : decide (a ≤ f.rg - 3)
  · rw [h_le3] at hv
    have c_pb := fun W => place_any f q d m b W
    rw [h_pb] at c_pb
    clear h_pb
    have c_rc := fun W => reg_any f (.slice q m d) c W
    rw [h_rc] at c_rc
    clear h_rc
    obtain rfl : v = false := by rw [← hv]; rfl
    clear hv
    clear hx hy hz
    go_wp2_with (first | (go_at_call 36; ((with_reducible refine (c_pb _).mono ?_); rintro e w' ⟨rfl, rfl⟩)) | (go_at_call 35; ((with_reducible refine (c_rc _).mono ?_); rintro e w' ⟨rfl, rfl⟩)))
    go_ret
    exact ⟨rfl, by first | exact k0 | exact k0.alloc _ | exact (k0.alloc _).alloc _⟩
  rw [h_le3] at hv
  have c_pb := fun W => place_any f q d m b W
  rw [h_pb] at c_pb
  clear h_pb
  have c_rc := fun W => reg_any f (.slice q m d) c W
  rw [h_rc] at c_rc
  clear h_rc
  obtain rfl : v = true := by rw [← hv]; rfl
  clear hv
  clear hx hy hz
  go_wp2_with (first | (go_at_call 36; ((with_reducible refine (c_pb _).mono ?_); rintro e w' ⟨rfl, rfl⟩)) | (go_at_call 35; ((with_reducible refine (c_rc _).mono ?_); rintro e w' ⟨rfl, rfl⟩)))
  go_ret
  exact ⟨rfl, by first | exact k0 | exact k0.alloc _ | exact (k0.alloc _).alloc _⟩
set_option maxRecDepth 100000 in
set_option maxHeartbeats 4000000 in
theorem rin_32 (vi vt cv : Value) (q : Option Addr) (np d : Nat) (g : Int) (f : Pr) (a b c : Int) (w : World) (hm : np ≤ 100000) (hg : decide (0 ≤ b) = true → decide (b < (np : Int)) = true → ∃ pb po, q = some ⟨pb, po, none⟩ ∧ ∃ j : Nat, b = j ∧ w.cell? ⟨pb, po + j * 3, none⟩ = some (.int .i64 g)) (r0 : 0 ≤ f.rg) (r1 : f.rg ≤ 500) (v : Bool) (hv : ((decide (0 ≤ a) && decide (a < f.rg)) && decide (0 ≤ b) && decide (b < (np : Int)) && (c == 0) && decide (g ≤ f.rg - a)) = v) :
    Calls Tryz.prog 20 #[.agg #[.slice q np d, vi, vt], .agg #[.int .i64 f.pa, .int .i64 f.rg, cv], .agg #[.int .i64 32, .int .i64 a, .int .i64 b, .int .i64 c]] w fun e w' => e = .returned (.bool v) ∧ Ext w w' := by
  obtain ⟨x, hx⟩ : ∃ x, (decide (0 ≤ a) && decide (a < f.rg)) = x := ⟨_, rfl⟩
  obtain ⟨y, hy⟩ : ∃ y, (b == 0) = y := ⟨_, rfl⟩
  obtain ⟨z, hz⟩ : ∃ z, (c == 0) = z := ⟨_, rfl⟩
  have cA := fun W => reg_any f (cv) a W
  rw [hx] at cA
  rw [hx] at hv
  replace hx := Lib.hid hx
  rw [hz] at hv
  replace hg := Lib.hid hg
  go_enter Tryz.func20, Tryz.ntmps20
  go_wp2_with fail
  refine wp_region_ext (by kernel_rfl) (by kernel_rfl) ?_
  repeat (
    first
      | go_big_quiet_skip
      | (go_big_quiet_want
         go_big_quiet_op
         first
           | go_big_quiet_on
           | (apply Exists.intro
              refine ⟨fun wq hq => ?_, ?_⟩
              focus (
                have q1 := (Ext.cells hq).1
                have q2 := (Ext.cells hq).2
                first
                  | ((go_at_call 35; exact Calls.ext_of hq ((cA _).mono fun _ _ h => ⟨h.1, h.2 ▸ (Ext.refl _).alloc _⟩)); done)
                  | (go_simp; exact rfl))
              go_big_quiet_on)))
  refine wpQuiet_nil ?_
  intro we hwe
  clear cA
  have k0 : Ext w we := ((((Ext.refl w).alloc _).alloc _).alloc _).trans hwe
  have T00 := hwe.cell (a := ⟨w.heap.size, 0, none⟩) (v := .slice q np d) (by go_simp)
  have T01 := hwe.cell (a := ⟨w.heap.size, 1, none⟩) (v := vi) (by go_simp)
  have T02 := hwe.cell (a := ⟨w.heap.size, 2, none⟩) (v := vt) (by go_simp)
  have T10 := hwe.cell (a := ⟨w.heap.size + 1, 0, none⟩) (v := .int .i64 f.pa) (by go_simp)
  have T11 := hwe.cell (a := ⟨w.heap.size + 1, 1, none⟩) (v := .int .i64 f.rg) (by go_simp)
  have T12 := hwe.cell (a := ⟨w.heap.size + 1, 2, none⟩) (v := cv) (by go_simp)
  have T20 := hwe.cell (a := ⟨w.heap.size + 1 + 1, 0, none⟩) (v := .int .i64 32) (by go_simp)
  have T21 := hwe.cell (a := ⟨w.heap.size + 1 + 1, 1, none⟩) (v := .int .i64 a) (by go_simp)
  have T22 := hwe.cell (a := ⟨w.heap.size + 1 + 1, 2, none⟩) (v := .int .i64 b) (by go_simp)
  have T23 := hwe.cell (a := ⟨w.heap.size + 1 + 1, 3, none⟩) (v := .int .i64 c) (by go_simp)
  have l0 := cell_lt T00
  have l1 := cell_lt T10
  have l2 := cell_lt T20
  simp only at l0 l1 l2
  clear hwe
  cases x
  · obtain rfl : v = false := by rw [← hv]; rfl
    clear hv
    clear hx hy hz hg
    go_wp2_with fail
    refine wp_region_ext (by kernel_rfl) (by kernel_rfl) ?_
    repeat (
      first
        | go_big_quiet_skip
        | (go_big_quiet_want
           go_big_quiet_op
           first
             | go_big_quiet_on
             | (apply Exists.intro
                refine ⟨fun wq hq => ?_, ?_⟩
                focus (
                  have q1 := (Ext.cells hq).1
                  have q2 := (Ext.cells hq).2
                  first
                    | (fail; done)
                    | (go_simp; exact rfl))
                go_big_quiet_on)))
    refine wpQuiet_nil ?_
    intro wf hwf
    replace k0 := k0.trans hwf
    go_wp2_with fail
    go_ret
    exact ⟨rfl, by first | exact k0 | exact k0.alloc _ | exact (k0.alloc _).alloc _⟩
  cases h_b0 : decide (0 ≤ b)
  · rw [h_b0] at hv
    obtain rfl : v = false := by rw [← hv]; rfl
    clear hv
    have hra : 0 ≤ a ∧ a < f.rg := by have := hx.out; simpa using this
    obtain ⟨ra0, ra1⟩ := hra
    clear hx hy hz hg
    go_wp2_with fail
    refine wp_region_ext (by kernel_rfl) (by kernel_rfl) ?_
    repeat (
      first
        | go_big_quiet_skip
        | (go_big_quiet_want
           go_big_quiet_op
           first
             | go_big_quiet_on
             | (apply Exists.intro
                refine ⟨fun wq hq => ?_, ?_⟩
                focus (
                  have q1 := (Ext.cells hq).1
                  have q2 := (Ext.cells hq).2
                  first
                    | (fail; done)
                    | (go_simp; exact rfl))
                go_big_quiet_on)))
    refine wpQuiet_nil ?_
    intro wf hwf
    replace k0 := k0.trans hwf
    go_wp2_with fail
    go_ret
    exact ⟨rfl, by first | exact k0 | exact k0.alloc _ | exact (k0.alloc _).alloc _⟩
  rw [h_b0] at hv
  cases h_bp : decide (b < (np : Int))
  · rw [h_bp] at hv
    obtain rfl : v = false := by rw [← hv]; rfl
    clear hv
    have hra : 0 ≤ a ∧ a < f.rg := by have := hx.out; simpa using this
    obtain ⟨ra0, ra1⟩ := hra
    clear hx hy hz hg
    go_wp2_with fail
    refine wp_region_ext (by kernel_rfl) (by kernel_rfl) ?_
    repeat (
      first
        | go_big_quiet_skip
        | (go_big_quiet_want
           go_big_quiet_op
           first
             | go_big_quiet_on
             | (apply Exists.intro
                refine ⟨fun wq hq => ?_, ?_⟩
                focus (
                  have q1 := (Ext.cells hq).1
                  have q2 := (Ext.cells hq).2
                  first
                    | (fail; done)
                    | (go_simp; exact rfl))
                go_big_quiet_on)))
    refine wpQuiet_nil ?_
    intro wf hwf
    replace k0 := k0.trans hwf
    go_wp2_with fail
    go_ret
    exact ⟨rfl, by first | exact k0 | exact k0.alloc _ | exact (k0.alloc _).alloc _⟩
  rw [h_bp] at hv
  cases z
  · obtain rfl : v = false := by rw [← hv]; rfl
    clear hv
    obtain ⟨pb, po, rfl, j, rfl, hgc⟩ := hg.out h_b0 h_bp
    replace hgc := k0.cell hgc
    have lp := cell_lt hgc
    simp only at lp
    have hjn : j < np := by have := of_decide_eq_true h_bp; omega
    have np1 : (1 : Int) ≤ np := by omega
    have np2 : (np : Int) ≤ 100000 := by omega
    have hmin : min (j : Int) ((np : Int) - 1) = j := by omega
    have hmax : max (0 : Int) (j : Int) = j := by omega
    have hif : (if 0 < j then (j : Int) else 0) = j := by split <;> omega
    have hra : 0 ≤ a ∧ a < f.rg := by have := hx.out; simpa using this
    obtain ⟨ra0, ra1⟩ := hra
    clear hx hy hz hg
    go_wp2_with fail
    refine wp_region_ext (by kernel_rfl) (by kernel_rfl) ?_
    repeat (
      first
        | go_big_quiet_skip
        | (go_big_quiet_want
           go_big_quiet_op
           first
             | go_big_quiet_on
             | (apply Exists.intro
                refine ⟨fun wq hq => ?_, ?_⟩
                focus (
                  have q1 := (Ext.cells hq).1
                  have q2 := (Ext.cells hq).2
                  first
                    | (fail; done)
                    | (go_simp; exact rfl))
                go_big_quiet_on)))
    refine wpQuiet_nil ?_
    intro wf hwf
    replace k0 := k0.trans hwf
    go_wp2_with fail
    go_ret
    exact ⟨rfl, by first | exact k0 | exact k0.alloc _ | exact (k0.alloc _).alloc _⟩
  cases h_le32 : decide (g ≤ f.rg - a)
  · rw [h_le32] at hv
    obtain rfl : v = false := by rw [← hv]; rfl
    clear hv
    obtain ⟨pb, po, rfl, j, rfl, hgc⟩ := hg.out h_b0 h_bp
    replace hgc := k0.cell hgc
    have lp := cell_lt hgc
    simp only at lp
    have hjn : j < np := by have := of_decide_eq_true h_bp; omega
    have np1 : (1 : Int) ≤ np := by omega
    have np2 : (np : Int) ≤ 100000 := by omega
    have hmin : min (j : Int) ((np : Int) - 1) = j := by omega
    have hmax : max (0 : Int) (j : Int) = j := by omega
    have hif : (if 0 < j then (j : Int) else 0) = j := by split <;> omega
    have hra : 0 ≤ a ∧ a < f.rg := by have := hx.out; simpa using this
    obtain ⟨ra0, ra1⟩ := hra
    clear hx hy hz hg
    go_wp2_with fail
    refine wp_region_ext (by kernel_rfl) (by kernel_rfl) ?_
    repeat (
      first
        | go_big_quiet_skip
        | (go_big_quiet_want
           go_big_quiet_op
           first
             | go_big_quiet_on
             | (apply Exists.intro
                refine ⟨fun wq hq => ?_, ?_⟩
                focus (
                  have q1 := (Ext.cells hq).1
                  have q2 := (Ext.cells hq).2
                  first
                    | (fail; done)
                    | (go_simp; exact rfl))
                go_big_quiet_on)))
    refine wpQuiet_nil ?_
    intro wf hwf
    replace k0 := k0.trans hwf
    go_wp2_with fail
    go_ret
    exact ⟨rfl, by first | exact k0 | exact k0.alloc _ | exact (k0.alloc _).alloc _⟩
  rw [h_le32] at hv
  obtain rfl : v = true := by rw [← hv]; rfl
  clear hv
  obtain ⟨pb, po, rfl, j, rfl, hgc⟩ := hg.out h_b0 h_bp
  replace hgc := k0.cell hgc
  have lp := cell_lt hgc
  simp only at lp
  have hjn : j < np := by have := of_decide_eq_true h_bp; omega
  have np1 : (1 : Int) ≤ np := by omega
  have np2 : (np : Int) ≤ 100000 := by omega
  have hmin : min (j : Int) ((np : Int) - 1) = j := by omega
  have hmax : max (0 : Int) (j : Int) = j := by omega
  have hif : (if 0 < j then (j : Int) else 0) = j := by split <;> omega
  have hra : 0 ≤ a ∧ a < f.rg := by have := hx.out; simpa using this
  obtain ⟨ra0, ra1⟩ := hra
  clear hx hy hz hg
  go_wp2_with fail
  refine wp_region_ext (by kernel_rfl) (by kernel_rfl) ?_
  repeat (
    first
      | go_big_quiet_skip
      | (go_big_quiet_want
         go_big_quiet_op
         first
           | go_big_quiet_on
           | (apply Exists.intro
              refine ⟨fun wq hq => ?_, ?_⟩
              focus (
                have q1 := (Ext.cells hq).1
                have q2 := (Ext.cells hq).2
                first
                  | (fail; done)
                  | (go_simp; exact rfl))
              go_big_quiet_on)))
  refine wpQuiet_nil ?_
  intro wf hwf
  replace k0 := k0.trans hwf
  go_wp2_with fail
  go_ret
  exact ⟨rfl, by first | exact k0 | exact k0.alloc _ | exact (k0.alloc _).alloc _⟩
set_option maxRecDepth 100000 in
set_option maxHeartbeats 4000000 in
theorem rin_33 (vp vi cv : Value) (q : Option Addr) (nt d : Nat) (u : Bool) (f : Pr) (a b c : Int) (w : World) (hm : nt ≤ 100000) (hg : decide (0 ≤ b) = true → decide (b < (nt : Int)) = true → ∃ pb po, q = some ⟨pb, po, none⟩ ∧ ∃ (j : Nat) (s : ByteArray), b = j ∧ w.cell? ⟨pb, po + j, none⟩ = some (.string s) ∧ builtB s = u) (r0 : 0 ≤ f.rg) (r1 : f.rg ≤ 500) (v : Bool) (hv : ((decide (0 ≤ a) && decide (a < f.rg)) && decide (0 ≤ b) && decide (b < (nt : Int)) && u && decide (0 ≤ c) && decide (c ≤ f.rg - a)) = v) :
    Calls Tryz.prog 20 #[.agg #[vp, vi, .slice q nt d], .agg #[.int .i64 f.pa, .int .i64 f.rg, cv], .agg #[.int .i64 33, .int .i64 a, .int .i64 b, .int .i64 c]] w fun e w' => e = .returned (.bool v) ∧ Ext w w' := by
  obtain ⟨x, hx⟩ : ∃ x, (decide (0 ≤ a) && decide (a < f.rg)) = x := ⟨_, rfl⟩
  obtain ⟨y, hy⟩ : ∃ y, (b == 0) = y := ⟨_, rfl⟩
  obtain ⟨z, hz⟩ : ∃ z, (c == 0) = z := ⟨_, rfl⟩
  have cA := fun W => reg_any f (cv) a W
  rw [hx] at cA
  rw [hx] at hv
  replace hx := Lib.hid hx
  replace hg := Lib.hid hg
  go_enter Tryz.func20, Tryz.ntmps20
  go_wp2_with fail
  refine wp_region_ext (by kernel_rfl) (by kernel_rfl) ?_
  repeat (
    first
      | go_big_quiet_skip
      | (go_big_quiet_want
         go_big_quiet_op
         first
           | go_big_quiet_on
           | (apply Exists.intro
              refine ⟨fun wq hq => ?_, ?_⟩
              focus (
                have q1 := (Ext.cells hq).1
                have q2 := (Ext.cells hq).2
                first
                  | ((go_at_call 35; exact Calls.ext_of hq ((cA _).mono fun _ _ h => ⟨h.1, h.2 ▸ (Ext.refl _).alloc _⟩)); done)
                  | (go_simp; exact rfl))
              go_big_quiet_on)))
  refine wpQuiet_nil ?_
  intro we hwe
  clear cA
  have k0 : Ext w we := ((((Ext.refl w).alloc _).alloc _).alloc _).trans hwe
  have T00 := hwe.cell (a := ⟨w.heap.size, 0, none⟩) (v := vp) (by go_simp)
  have T01 := hwe.cell (a := ⟨w.heap.size, 1, none⟩) (v := vi) (by go_simp)
  have T02 := hwe.cell (a := ⟨w.heap.size, 2, none⟩) (v := .slice q nt d) (by go_simp)
  have T10 := hwe.cell (a := ⟨w.heap.size + 1, 0, none⟩) (v := .int .i64 f.pa) (by go_simp)
  have T11 := hwe.cell (a := ⟨w.heap.size + 1, 1, none⟩) (v := .int .i64 f.rg) (by go_simp)
  have T12 := hwe.cell (a := ⟨w.heap.size + 1, 2, none⟩) (v := cv) (by go_simp)
  have T20 := hwe.cell (a := ⟨w.heap.size + 1 + 1, 0, none⟩) (v := .int .i64 33) (by go_simp)
  have T21 := hwe.cell (a := ⟨w.heap.size + 1 + 1, 1, none⟩) (v := .int .i64 a) (by go_simp)
  have T22 := hwe.cell (a := ⟨w.heap.size + 1 + 1, 2, none⟩) (v := .int .i64 b) (by go_simp)
  have T23 := hwe.cell (a := ⟨w.heap.size + 1 + 1, 3, none⟩) (v := .int .i64 c) (by go_simp)
  have l0 := cell_lt T00
  have l1 := cell_lt T10
  have l2 := cell_lt T20
  simp only at l0 l1 l2
  clear hwe
  cases x
  · obtain rfl : v = false := by rw [← hv]; rfl
    clear hv
    clear hx hy hz hg
    go_wp2_with fail
    go_ret
    exact ⟨rfl, by first | exact k0 | exact k0.alloc _ | exact (k0.alloc _).alloc _⟩
  cases h_b0 : decide (0 ≤ b)
  · rw [h_b0] at hv
    obtain rfl : v = false := by rw [← hv]; rfl
    clear hv
    have hra : 0 ≤ a ∧ a < f.rg := by have := hx.out; simpa using this
    obtain ⟨ra0, ra1⟩ := hra
    clear hx hy hz hg
    go_wp2_with fail
    go_ret
    exact ⟨rfl, by first | exact k0 | exact k0.alloc _ | exact (k0.alloc _).alloc _⟩
  rw [h_b0] at hv
  cases h_bt : decide (b < (nt : Int))
  · rw [h_bt] at hv
    obtain rfl : v = false := by rw [← hv]; rfl
    clear hv
    have hra : 0 ≤ a ∧ a < f.rg := by have := hx.out; simpa using this
    obtain ⟨ra0, ra1⟩ := hra
    clear hx hy hz hg
    go_wp2_with fail
    go_ret
    exact ⟨rfl, by first | exact k0 | exact k0.alloc _ | exact (k0.alloc _).alloc _⟩
  rw [h_bt] at hv
  cases u
  · obtain rfl : v = false := by rw [← hv]; rfl
    clear hv
    obtain ⟨pb, po, rfl, j, str, rfl, hgc, hu⟩ := hg.out h_b0 h_bt
    replace hgc := k0.cell hgc
    have lp := cell_lt hgc
    simp only at lp
    have hjn : j < nt := by have := of_decide_eq_true h_bt; omega
    have nt1 : (1 : Int) ≤ nt := by omega
    have nt2 : (nt : Int) ≤ 100000 := by omega
    have hmin : min (j : Int) ((nt : Int) - 1) = j := by omega
    have hmax : max (0 : Int) (j : Int) = j := by omega
    have hif : (if 0 < j then (j : Int) else 0) = j := by split <;> omega
    have cU := fun W => rbuilt_any str W
    rw [hu] at cU
    clear hu
    have hra : 0 ≤ a ∧ a < f.rg := by have := hx.out; simpa using this
    obtain ⟨ra0, ra1⟩ := hra
    clear hx hy hz hg
    go_wp2_with fail
    refine (cU _).mono ?_
    rintro e w3 ⟨rfl, e3⟩
    replace T00 := e3.cell T00
    replace T01 := e3.cell T01
    replace T02 := e3.cell T02
    replace T10 := e3.cell T10
    replace T11 := e3.cell T11
    replace T12 := e3.cell T12
    replace T20 := e3.cell T20
    replace T21 := e3.cell T21
    replace T22 := e3.cell T22
    replace T23 := e3.cell T23
    replace k0 := k0.trans e3
    clear e3
    go_wp2_with fail
    go_ret
    exact ⟨rfl, by first | exact k0 | exact k0.alloc _ | exact (k0.alloc _).alloc _⟩
  cases h_c0 : decide (0 ≤ c)
  · rw [h_c0] at hv
    obtain rfl : v = false := by rw [← hv]; rfl
    clear hv
    obtain ⟨pb, po, rfl, j, str, rfl, hgc, hu⟩ := hg.out h_b0 h_bt
    replace hgc := k0.cell hgc
    have lp := cell_lt hgc
    simp only at lp
    have hjn : j < nt := by have := of_decide_eq_true h_bt; omega
    have nt1 : (1 : Int) ≤ nt := by omega
    have nt2 : (nt : Int) ≤ 100000 := by omega
    have hmin : min (j : Int) ((nt : Int) - 1) = j := by omega
    have hmax : max (0 : Int) (j : Int) = j := by omega
    have hif : (if 0 < j then (j : Int) else 0) = j := by split <;> omega
    have cU := fun W => rbuilt_any str W
    rw [hu] at cU
    clear hu
    have hra : 0 ≤ a ∧ a < f.rg := by have := hx.out; simpa using this
    obtain ⟨ra0, ra1⟩ := hra
    clear hx hy hz hg
    go_wp2_with fail
    refine (cU _).mono ?_
    rintro e w3 ⟨rfl, e3⟩
    replace T00 := e3.cell T00
    replace T01 := e3.cell T01
    replace T02 := e3.cell T02
    replace T10 := e3.cell T10
    replace T11 := e3.cell T11
    replace T12 := e3.cell T12
    replace T20 := e3.cell T20
    replace T21 := e3.cell T21
    replace T22 := e3.cell T22
    replace T23 := e3.cell T23
    replace k0 := k0.trans e3
    clear e3
    go_wp2_with fail
    go_ret
    exact ⟨rfl, by first | exact k0 | exact k0.alloc _ | exact (k0.alloc _).alloc _⟩
  rw [h_c0] at hv
  cases h_cle : decide (c ≤ f.rg - a)
  · rw [h_cle] at hv
    obtain rfl : v = false := by rw [← hv]; rfl
    clear hv
    obtain ⟨pb, po, rfl, j, str, rfl, hgc, hu⟩ := hg.out h_b0 h_bt
    replace hgc := k0.cell hgc
    have lp := cell_lt hgc
    simp only at lp
    have hjn : j < nt := by have := of_decide_eq_true h_bt; omega
    have nt1 : (1 : Int) ≤ nt := by omega
    have nt2 : (nt : Int) ≤ 100000 := by omega
    have hmin : min (j : Int) ((nt : Int) - 1) = j := by omega
    have hmax : max (0 : Int) (j : Int) = j := by omega
    have hif : (if 0 < j then (j : Int) else 0) = j := by split <;> omega
    have cU := fun W => rbuilt_any str W
    rw [hu] at cU
    clear hu
    have hra : 0 ≤ a ∧ a < f.rg := by have := hx.out; simpa using this
    obtain ⟨ra0, ra1⟩ := hra
    clear hx hy hz hg
    go_wp2_with fail
    refine (cU _).mono ?_
    rintro e w3 ⟨rfl, e3⟩
    replace T00 := e3.cell T00
    replace T01 := e3.cell T01
    replace T02 := e3.cell T02
    replace T10 := e3.cell T10
    replace T11 := e3.cell T11
    replace T12 := e3.cell T12
    replace T20 := e3.cell T20
    replace T21 := e3.cell T21
    replace T22 := e3.cell T22
    replace T23 := e3.cell T23
    replace k0 := k0.trans e3
    clear e3
    go_wp2_with fail
    go_ret
    exact ⟨rfl, by first | exact k0 | exact k0.alloc _ | exact (k0.alloc _).alloc _⟩
  rw [h_cle] at hv
  obtain rfl : v = true := by rw [← hv]; rfl
  clear hv
  obtain ⟨pb, po, rfl, j, str, rfl, hgc, hu⟩ := hg.out h_b0 h_bt
  replace hgc := k0.cell hgc
  have lp := cell_lt hgc
  simp only at lp
  have hjn : j < nt := by have := of_decide_eq_true h_bt; omega
  have nt1 : (1 : Int) ≤ nt := by omega
  have nt2 : (nt : Int) ≤ 100000 := by omega
  have hmin : min (j : Int) ((nt : Int) - 1) = j := by omega
  have hmax : max (0 : Int) (j : Int) = j := by omega
  have hif : (if 0 < j then (j : Int) else 0) = j := by split <;> omega
  have cU := fun W => rbuilt_any str W
  rw [hu] at cU
  clear hu
  have hra : 0 ≤ a ∧ a < f.rg := by have := hx.out; simpa using this
  obtain ⟨ra0, ra1⟩ := hra
  clear hx hy hz hg
  go_wp2_with fail
  refine (cU _).mono ?_
  rintro e w3 ⟨rfl, e3⟩
  replace T00 := e3.cell T00
  replace T01 := e3.cell T01
  replace T02 := e3.cell T02
  replace T10 := e3.cell T10
  replace T11 := e3.cell T11
  replace T12 := e3.cell T12
  replace T20 := e3.cell T20
  replace T21 := e3.cell T21
  replace T22 := e3.cell T22
  replace T23 := e3.cell T23
  replace k0 := k0.trans e3
  clear e3
  go_wp2_with fail
  go_ret
  exact ⟨rfl, by first | exact k0 | exact k0.alloc _ | exact (k0.alloc _).alloc _⟩
set_option maxRecDepth 100000 in
set_option maxHeartbeats 4000000 in
theorem rin_35 (vp vi vt cv : Value) (f : Pr) (a b c : Int) (w : World) (v : Bool) (hv : ((a == 0) && (b == 0) && (c == 0)) = v) :
    Calls Tryz.prog 20 #[.agg #[vp, vi, vt], .agg #[.int .i64 f.pa, .int .i64 f.rg, cv], .agg #[.int .i64 35, .int .i64 a, .int .i64 b, .int .i64 c]] w fun e w' => e = .returned (.bool v) ∧ Ext w w' := by
  obtain ⟨x, hx⟩ : ∃ x, (decide (0 ≤ a) && decide (a < f.rg)) = x := ⟨_, rfl⟩
  obtain ⟨y, hy⟩ : ∃ y, (b == 0) = y := ⟨_, rfl⟩
  obtain ⟨z, hz⟩ : ∃ z, (c == 0) = z := ⟨_, rfl⟩
  have cA := fun W => reg_any f (cv) a W
  rw [hx] at cA
  replace hx := Lib.hid hx
  rw [hy] at hv
  rw [hz] at hv
  go_enter Tryz.func20, Tryz.ntmps20
  go_wp2_with fail
  refine wp_region_ext (by kernel_rfl) (by kernel_rfl) ?_
  repeat (
    first
      | go_big_quiet_skip
      | (go_big_quiet_want
         go_big_quiet_op
         first
           | go_big_quiet_on
           | (apply Exists.intro
              refine ⟨fun wq hq => ?_, ?_⟩
              focus (
                have q1 := (Ext.cells hq).1
                have q2 := (Ext.cells hq).2
                first
                  | ((go_at_call 35; exact Calls.ext_of hq ((cA _).mono fun _ _ h => ⟨h.1, h.2 ▸ (Ext.refl _).alloc _⟩)); done)
                  | (go_simp; exact rfl))
              go_big_quiet_on)))
  refine wpQuiet_nil ?_
  intro we hwe
  clear cA
  have k0 : Ext w we := ((((Ext.refl w).alloc _).alloc _).alloc _).trans hwe
  have T00 := hwe.cell (a := ⟨w.heap.size, 0, none⟩) (v := vp) (by go_simp)
  have T01 := hwe.cell (a := ⟨w.heap.size, 1, none⟩) (v := vi) (by go_simp)
  have T02 := hwe.cell (a := ⟨w.heap.size, 2, none⟩) (v := vt) (by go_simp)
  have T10 := hwe.cell (a := ⟨w.heap.size + 1, 0, none⟩) (v := .int .i64 f.pa) (by go_simp)
  have T11 := hwe.cell (a := ⟨w.heap.size + 1, 1, none⟩) (v := .int .i64 f.rg) (by go_simp)
  have T12 := hwe.cell (a := ⟨w.heap.size + 1, 2, none⟩) (v := cv) (by go_simp)
  have T20 := hwe.cell (a := ⟨w.heap.size + 1 + 1, 0, none⟩) (v := .int .i64 35) (by go_simp)
  have T21 := hwe.cell (a := ⟨w.heap.size + 1 + 1, 1, none⟩) (v := .int .i64 a) (by go_simp)
  have T22 := hwe.cell (a := ⟨w.heap.size + 1 + 1, 2, none⟩) (v := .int .i64 b) (by go_simp)
  have T23 := hwe.cell (a := ⟨w.heap.size + 1 + 1, 3, none⟩) (v := .int .i64 c) (by go_simp)
  have l0 := cell_lt T00
  have l1 := cell_lt T10
  have l2 := cell_lt T20
  simp only at l0 l1 l2
  clear hwe
  cases h_a0 : (a == 0)
  · rw [h_a0] at hv
    obtain rfl : v = false := by rw [← hv]; rfl
    clear hv
    clear hx hy hz
    go_wp2_with fail
    go_ret
    exact ⟨rfl, by first | exact k0 | exact k0.alloc _ | exact (k0.alloc _).alloc _⟩
  rw [h_a0] at hv
  cases y
  · obtain rfl : v = false := by rw [← hv]; rfl
    clear hv
    clear hx hy hz
    go_wp2_with fail
    go_ret
    exact ⟨rfl, by first | exact k0 | exact k0.alloc _ | exact (k0.alloc _).alloc _⟩
  cases z
  · obtain rfl : v = false := by rw [← hv]; rfl
    clear hv
    clear hx hy hz
    go_wp2_with fail
    go_ret
    exact ⟨rfl, by first | exact k0 | exact k0.alloc _ | exact (k0.alloc _).alloc _⟩
  obtain rfl : v = true := by rw [← hv]; rfl
  clear hv
  clear hx hy hz
  go_wp2_with fail
  go_ret
  exact ⟨rfl, by first | exact k0 | exact k0.alloc _ | exact (k0.alloc _).alloc _⟩
set_option maxRecDepth 100000 in
set_option maxHeartbeats 4000000 in
theorem rin_lo (vp vi vt cv : Value) (op : Int) (f : Pr) (a b c : Int) (w : World) (o1 : op < 1) (v : Bool) (hv : (false) = v) :
    Calls Tryz.prog 20 #[.agg #[vp, vi, vt], .agg #[.int .i64 f.pa, .int .i64 f.rg, cv], .agg #[.int .i64 op, .int .i64 a, .int .i64 b, .int .i64 c]] w fun e w' => e = .returned (.bool v) ∧ Ext w w' := by
  obtain ⟨x, hx⟩ : ∃ x, (decide (0 ≤ a) && decide (a < f.rg)) = x := ⟨_, rfl⟩
  obtain ⟨y, hy⟩ : ∃ y, (b == 0) = y := ⟨_, rfl⟩
  obtain ⟨z, hz⟩ : ∃ z, (c == 0) = z := ⟨_, rfl⟩
  have cA := fun W => reg_any f (cv) a W
  rw [hx] at cA
  replace hx := Lib.hid hx
  obtain rfl : v = false := hv.symm
  go_enter Tryz.func20, Tryz.ntmps20
  go_wp2_with fail
  refine wp_region_ext (by kernel_rfl) (by kernel_rfl) ?_
  repeat (
    first
      | go_big_quiet_skip
      | (go_big_quiet_want
         go_big_quiet_op
         first
           | go_big_quiet_on
           | (apply Exists.intro
              refine ⟨fun wq hq => ?_, ?_⟩
              focus (
                have q1 := (Ext.cells hq).1
                have q2 := (Ext.cells hq).2
                first
                  | ((go_at_call 35; exact Calls.ext_of hq ((cA _).mono fun _ _ h => ⟨h.1, h.2 ▸ (Ext.refl _).alloc _⟩)); done)
                  | (go_simp; exact rfl))
              go_big_quiet_on)))
  refine wpQuiet_nil ?_
  intro we hwe
  clear cA
  have k0 : Ext w we := ((((Ext.refl w).alloc _).alloc _).alloc _).trans hwe
  have T00 := hwe.cell (a := ⟨w.heap.size, 0, none⟩) (v := vp) (by go_simp)
  have T01 := hwe.cell (a := ⟨w.heap.size, 1, none⟩) (v := vi) (by go_simp)
  have T02 := hwe.cell (a := ⟨w.heap.size, 2, none⟩) (v := vt) (by go_simp)
  have T10 := hwe.cell (a := ⟨w.heap.size + 1, 0, none⟩) (v := .int .i64 f.pa) (by go_simp)
  have T11 := hwe.cell (a := ⟨w.heap.size + 1, 1, none⟩) (v := .int .i64 f.rg) (by go_simp)
  have T12 := hwe.cell (a := ⟨w.heap.size + 1, 2, none⟩) (v := cv) (by go_simp)
  have T20 := hwe.cell (a := ⟨w.heap.size + 1 + 1, 0, none⟩) (v := .int .i64 op) (by go_simp)
  have T21 := hwe.cell (a := ⟨w.heap.size + 1 + 1, 1, none⟩) (v := .int .i64 a) (by go_simp)
  have T22 := hwe.cell (a := ⟨w.heap.size + 1 + 1, 2, none⟩) (v := .int .i64 b) (by go_simp)
  have T23 := hwe.cell (a := ⟨w.heap.size + 1 + 1, 3, none⟩) (v := .int .i64 c) (by go_simp)
  have l0 := cell_lt T00
  have l1 := cell_lt T10
  have l2 := cell_lt T20
  simp only at l0 l1 l2
  clear hwe
  have HO := Lib.hid o1
  clear hx hy hz o1
  have o_1 : (op == 1) = false := ne_lo4 HO.out (by decide)
  go_upto_region 5 with fail
  clear o_1
  have o_2 : (op == 2) = false := ne_lo4 HO.out (by decide)
  have o_3 : (op == 3) = false := ne_lo4 HO.out (by decide)
  have o_7 : (op == 7) = false := ne_lo4 HO.out (by decide)
  have o_8 : (op == 8) = false := ne_lo4 HO.out (by decide)
  have o_9 : (op == 9) = false := ne_lo4 HO.out (by decide)
  have o_34 : (op == 34) = false := ne_lo4 HO.out (by decide)
  go_upto_region 7 with fail
  clear o_2 o_3 o_7 o_8 o_9 o_34
  have o_4 : (op == 4) = false := ne_lo4 HO.out (by decide)
  go_upto_region 9 with fail
  clear o_4
  have o_5 : (op == 5) = false := ne_lo4 HO.out (by decide)
  go_upto_region 11 with fail
  clear o_5
  have o_6 : (op == 6) = false := ne_lo4 HO.out (by decide)
  have p1 : decide (24 ≤ op) = false := decide_eq_false (by have := HO.out; omega)
  go_upto_region 13 with fail
  clear o_6 p1
  have p1 : decide (10 ≤ op) = false := decide_eq_false (by have := HO.out; omega)
  go_upto_region 15 with fail
  clear p1
  have o_27 : (op == 27) = false := ne_lo4 HO.out (by decide)
  go_upto_region 17 with fail
  clear o_27
  have o_28 : (op == 28) = false := ne_lo4 HO.out (by decide)
  have o_29 : (op == 29) = false := ne_lo4 HO.out (by decide)
  go_upto_region 19 with fail
  clear o_28 o_29
  have o_30 : (op == 30) = false := ne_lo4 HO.out (by decide)
  have o_31 : (op == 31) = false := ne_lo4 HO.out (by decide)
  go_upto_region 21 with fail
  clear o_30 o_31
  have o_32 : (op == 32) = false := ne_lo4 HO.out (by decide)
  go_upto_region 23 with fail
  clear o_32
  have o_33 : (op == 33) = false := ne_lo4 HO.out (by decide)
  go_upto_region 25 with fail
  clear o_33
  have o_35 : (op == 35) = false := ne_lo4 HO.out (by decide)
  go_wp2_with fail
  go_ret
  exact ⟨rfl, k0⟩
set_option maxRecDepth 100000 in
set_option maxHeartbeats 4000000 in
theorem rin_hi (vp vi vt cv : Value) (op : Int) (f : Pr) (a b c : Int) (w : World) (o1 : 35 < op) (v : Bool) (hv : (false) = v) :
    Calls Tryz.prog 20 #[.agg #[vp, vi, vt], .agg #[.int .i64 f.pa, .int .i64 f.rg, cv], .agg #[.int .i64 op, .int .i64 a, .int .i64 b, .int .i64 c]] w fun e w' => e = .returned (.bool v) ∧ Ext w w' := by
  obtain ⟨x, hx⟩ : ∃ x, (decide (0 ≤ a) && decide (a < f.rg)) = x := ⟨_, rfl⟩
  obtain ⟨y, hy⟩ : ∃ y, (b == 0) = y := ⟨_, rfl⟩
  obtain ⟨z, hz⟩ : ∃ z, (c == 0) = z := ⟨_, rfl⟩
  have cA := fun W => reg_any f (cv) a W
  rw [hx] at cA
  replace hx := Lib.hid hx
  obtain rfl : v = false := hv.symm
  go_enter Tryz.func20, Tryz.ntmps20
  go_wp2_with fail
  refine wp_region_ext (by kernel_rfl) (by kernel_rfl) ?_
  repeat (
    first
      | go_big_quiet_skip
      | (go_big_quiet_want
         go_big_quiet_op
         first
           | go_big_quiet_on
           | (apply Exists.intro
              refine ⟨fun wq hq => ?_, ?_⟩
              focus (
                have q1 := (Ext.cells hq).1
                have q2 := (Ext.cells hq).2
                first
                  | ((go_at_call 35; exact Calls.ext_of hq ((cA _).mono fun _ _ h => ⟨h.1, h.2 ▸ (Ext.refl _).alloc _⟩)); done)
                  | (go_simp; exact rfl))
              go_big_quiet_on)))
  refine wpQuiet_nil ?_
  intro we hwe
  clear cA
  have k0 : Ext w we := ((((Ext.refl w).alloc _).alloc _).alloc _).trans hwe
  have T00 := hwe.cell (a := ⟨w.heap.size, 0, none⟩) (v := vp) (by go_simp)
  have T01 := hwe.cell (a := ⟨w.heap.size, 1, none⟩) (v := vi) (by go_simp)
  have T02 := hwe.cell (a := ⟨w.heap.size, 2, none⟩) (v := vt) (by go_simp)
  have T10 := hwe.cell (a := ⟨w.heap.size + 1, 0, none⟩) (v := .int .i64 f.pa) (by go_simp)
  have T11 := hwe.cell (a := ⟨w.heap.size + 1, 1, none⟩) (v := .int .i64 f.rg) (by go_simp)
  have T12 := hwe.cell (a := ⟨w.heap.size + 1, 2, none⟩) (v := cv) (by go_simp)
  have T20 := hwe.cell (a := ⟨w.heap.size + 1 + 1, 0, none⟩) (v := .int .i64 op) (by go_simp)
  have T21 := hwe.cell (a := ⟨w.heap.size + 1 + 1, 1, none⟩) (v := .int .i64 a) (by go_simp)
  have T22 := hwe.cell (a := ⟨w.heap.size + 1 + 1, 2, none⟩) (v := .int .i64 b) (by go_simp)
  have T23 := hwe.cell (a := ⟨w.heap.size + 1 + 1, 3, none⟩) (v := .int .i64 c) (by go_simp)
  have l0 := cell_lt T00
  have l1 := cell_lt T10
  have l2 := cell_lt T20
  simp only at l0 l1 l2
  clear hwe
  have HO := Lib.hid o1
  clear hx hy hz o1
  have o_1 : (op == 1) = false := ne_hi4 HO.out (by decide)
  go_upto_region 5 with fail
  clear o_1
  have o_2 : (op == 2) = false := ne_hi4 HO.out (by decide)
  have o_3 : (op == 3) = false := ne_hi4 HO.out (by decide)
  have o_7 : (op == 7) = false := ne_hi4 HO.out (by decide)
  have o_8 : (op == 8) = false := ne_hi4 HO.out (by decide)
  have o_9 : (op == 9) = false := ne_hi4 HO.out (by decide)
  have o_34 : (op == 34) = false := ne_hi4 HO.out (by decide)
  go_upto_region 7 with fail
  clear o_2 o_3 o_7 o_8 o_9 o_34
  have o_4 : (op == 4) = false := ne_hi4 HO.out (by decide)
  go_upto_region 9 with fail
  clear o_4
  have o_5 : (op == 5) = false := ne_hi4 HO.out (by decide)
  go_upto_region 11 with fail
  clear o_5
  have o_6 : (op == 6) = false := ne_hi4 HO.out (by decide)
  have p1 : decide (24 ≤ op) = true := decide_eq_true (by have := HO.out; omega)
  have p2 : decide (op ≤ 26) = false := decide_eq_false (by have := HO.out; omega)
  go_upto_region 13 with fail
  clear o_6 p1 p2
  have p1 : decide (10 ≤ op) = true := decide_eq_true (by have := HO.out; omega)
  have p2 : decide (op ≤ 23) = false := decide_eq_false (by have := HO.out; omega)
  go_upto_region 15 with fail
  clear p1 p2
  have o_27 : (op == 27) = false := ne_hi4 HO.out (by decide)
  go_upto_region 17 with fail
  clear o_27
  have o_28 : (op == 28) = false := ne_hi4 HO.out (by decide)
  have o_29 : (op == 29) = false := ne_hi4 HO.out (by decide)
  go_upto_region 19 with fail
  clear o_28 o_29
  have o_30 : (op == 30) = false := ne_hi4 HO.out (by decide)
  have o_31 : (op == 31) = false := ne_hi4 HO.out (by decide)
  go_upto_region 21 with fail
  clear o_30 o_31
  have o_32 : (op == 32) = false := ne_hi4 HO.out (by decide)
  go_upto_region 23 with fail
  clear o_32
  have o_33 : (op == 33) = false := ne_hi4 HO.out (by decide)
  go_upto_region 25 with fail
  clear o_33
  have o_35 : (op == 35) = false := ne_hi4 HO.out (by decide)
  go_wp2_with fail
  go_ret
  exact ⟨rfl, k0⟩
end Go.Proofs.YtfjipoijbmmjcaaGreatDoor
