/- Quotients and what is left, by their operators. -/
import Derived.Test.YtidjibghicejaaaDoorValI
namespace Go.Proofs.YtidjibghicejaaaDoor
open Go.RowKit
set_option linter.unusedVariables false

theorem numV_b0 (o : Nat) (a b : Int) (h : ¬ o = 43) (h' : ¬ o = 45) (h'' : ¬ o = 42) (hb : b = 0) : numV o a b = .zero ∧ numW o a b = sZero := by simp [numV, numW, h, h', h'', hb]
theorem numV_quo1 (a : Int) : numV 47 a (-1) = fitL (-a) ∧ numW 47 a (-1) = fitW (-a) := ⟨rfl, rfl⟩
theorem numV_rem1 (a : Int) : numV 37 a (-1) = ⟨2, 0, sNone⟩ ∧ numW 37 a (-1) = sNone := ⟨rfl, rfl⟩
theorem numV_quo (a b : Int) (h0 : ¬ b = 0) (h1 : ¬ b = -1) : numV 47 a b = ⟨2, quoV a b, sNone⟩ ∧ numW 47 a b = sNone := by simp [numV, numW, h0, h1]
theorem numV_rem (a b : Int) (h0 : ¬ b = 0) (h1 : ¬ b = -1) : numV 37 a b = ⟨2, remV a b, sNone⟩ ∧ numW 37 a b = sNone := by simp [numV, numW, h0, h1]
theorem quoV_bounds {a b : Int} (ha : -9223372036854775808 ≤ a) (ha' : a ≤ 9223372036854775807) (h0 : ¬ b = 0) (h1 : ¬ b = -1) : -9223372036854775808 ≤ quoV a b ∧ quoV a b ≤ 9223372036854775807 := by
  obtain ⟨q1, q2, q3⟩ := quo_bounds ha ha' h0 h1
  unfold quoV
  split
  · rename_i h
    have : ¬ a.tmod b = 0 := by unfold turns at h; omega
    have := q3 this
    omega
  · omega
theorem remV_bounds {a b : Int} (hb : -9223372036854775808 ≤ b) (hb' : b ≤ 9223372036854775807) (h0 : ¬ b = 0) : -9223372036854775808 ≤ remV a b ∧ remV a b ≤ 9223372036854775807 := by
  obtain ⟨r1, r2⟩ := rem_bounds (a := a) h0
  unfold remV
  split
  · rename_i h
    unfold turns at h
    omega
  · omega

theorem num_quo_b0 (a : Int) (w : World) (ha : -9223372036854775808 ≤ a) (ha' : a ≤ 9223372036854775807) :
    Calls Tryd.prog 60 #[.string ⟨#[47]⟩, .int .i64 a, .int .i64 0] w fun e w' => e = .returned (.tuple #[(numV 47 a 0).v, .string (numW 47 a 0)]) ∧ Ext w w' := by
  obtain ⟨k1, k2⟩ := numV_b0 47 a 0 (by decide) (by decide) (by decide) rfl
  rw [k1, k2]
  clear k1 k2
  go_enter Tryd.func60, Tryd.ntmps60
  go_wp2_with fail
  exact bodyPost_ret (v := .tuple #[Vl.zero.v, .string sZero]) (by simp [results, Tryd.results60, go_sem, sZero, Vl.zero]) rfl ⟨rfl, (Ext.refl w).alloc _⟩

theorem num_quo_b1 (a : Int) (w : World) (ha : -9223372036854775808 ≤ a) (ha' : a ≤ 9223372036854775807) :
    Calls Tryd.prog 60 #[.string ⟨#[47]⟩, .int .i64 a, .int .i64 (-1)] w fun e w' => e = .returned (.tuple #[(numV 47 a (-1)).v, .string (numW 47 a (-1))]) ∧ Ext w w' := by
  obtain ⟨k1, k2⟩ := numV_quo1 a
  rw [k1, k2]
  clear k1 k2
  cases h : inI64 (-a)
  · obtain ⟨k1, k2⟩ := fitL_no h
    rw [k1, k2]
    have hm : a = -9223372036854775808 := by simp only [inI64, decide_eq_false_iff_not] at h; omega
    subst hm
    clear k1 k2 h
    go_enter Tryd.func60, Tryd.ntmps60
    go_wp2_with fail
    exact bodyPost_ret (v := .tuple #[Vl.zero.v, .string sOver]) (by simp [results, Tryd.results60, go_sem, sOver, Vl.zero]) rfl ⟨rfl, (Ext.refl w).alloc _⟩
  · obtain ⟨k1, k2, k3⟩ := fitL_yes h
    rw [k1, k2]
    have hm : (a == -9223372036854775808) = false := by
      have h2 := h
      simp only [inI64, decide_eq_true_eq] at h2
      simp; omega
    have hm' : -9223372036854775807 ≤ a := by simp at hm; omega
    clear k1 k2 k3 h
    go_enter Tryd.func60, Tryd.ntmps60
    go_wp2_with (first
      | (go_at_call 16; refine (int_any _ _).mono ?_; rintro e w'' ⟨rfl, he⟩; have hz := he.lt1; obtain ⟨p1, p2⟩ := he.cells))
    exact bodyPost_ret (v := .tuple #[(Vl.mk 2 (-a) sNone).v, .string sNone]) (by simp [results, Tryd.results60, go_sem, sNone, *]) rfl ⟨rfl, (((((Ext.refl w).alloc _).trans he).setCell (Nat.le_refl _) _).setCell (Nat.le_refl _) _).setCell (Nat.le_refl _) _⟩

theorem num_quo_go (a b : Int) (w : World) (ha : -9223372036854775808 ≤ a) (ha' : a ≤ 9223372036854775807) (hb : -9223372036854775808 ≤ b) (hb' : b ≤ 9223372036854775807) (h0 : ¬ b = 0) (h1 : ¬ b = -1) :
    Calls Tryd.prog 60 #[.string ⟨#[47]⟩, .int .i64 a, .int .i64 b] w fun e w' => e = .returned (.tuple #[(numV 47 a b).v, .string (numW 47 a b)]) ∧ Ext w w' := by
  rw [(numV_quo a b h0 h1).1, (numV_quo a b h0 h1).2]
  have c0 : (b == 0) = false := by simp [h0]
  have c1 : (b == -1) = false := by simp [h1]
  by_cases hm : a = -9223372036854775808
  · subst hm
    go_enter Tryd.func60, Tryd.ntmps60
    go_wp2_with (first
      | (go_at_call 74; refine (divided_any _ b _ ha ha' hb hb' h0 h1).mono ?_; rintro e w1 ⟨rfl, hd⟩; have hzd := hd.lt1; obtain ⟨d1, d2⟩ := hd.cells)
      | (go_at_call 16; refine (int_any _ _).mono ?_; rintro e w'' ⟨rfl, he⟩; have hz := Nat.lt_of_lt_of_le hzd he.le; obtain ⟨p1, p2⟩ := he.cells))
    exact bodyPost_ret (v := .tuple #[(Vl.mk 2 (quoV (-9223372036854775808) b) sNone).v, .string sNone]) (by simp [results, Tryd.results60, go_sem, sNone, *]) rfl ⟨rfl, ((((((Ext.refl w).alloc _).trans hd).trans he).setCell (Nat.le_refl _) _).setCell (Nat.le_refl _) _).setCell (Nat.le_refl _) _⟩
  · have c2 : (a == -9223372036854775808) = false := by simp [hm]
    clear hm
    go_enter Tryd.func60, Tryd.ntmps60
    go_wp2_with (first
      | (go_at_call 74; refine (divided_any a b _ ha ha' hb hb' h0 h1).mono ?_; rintro e w1 ⟨rfl, hd⟩; have hzd := hd.lt1; obtain ⟨d1, d2⟩ := hd.cells)
      | (go_at_call 16; refine (int_any _ _).mono ?_; rintro e w'' ⟨rfl, he⟩; have hz := Nat.lt_of_lt_of_le hzd he.le; obtain ⟨p1, p2⟩ := he.cells))
    exact bodyPost_ret (v := .tuple #[(Vl.mk 2 (quoV a b) sNone).v, .string sNone]) (by simp [results, Tryd.results60, go_sem, sNone, *]) rfl ⟨rfl, ((((((Ext.refl w).alloc _).trans hd).trans he).setCell (Nat.le_refl _) _).setCell (Nat.le_refl _) _).setCell (Nat.le_refl _) _⟩

theorem num_quo (a b : Int) (w : World) (ha : -9223372036854775808 ≤ a) (ha' : a ≤ 9223372036854775807) (hb : -9223372036854775808 ≤ b) (hb' : b ≤ 9223372036854775807) :
    Calls Tryd.prog 60 #[.string ⟨#[47]⟩, .int .i64 a, .int .i64 b] w fun e w' => e = .returned (.tuple #[(numV 47 a b).v, .string (numW 47 a b)]) ∧ Ext w w' := by
  by_cases h0 : b = 0
  · subst h0; exact num_quo_b0 a w ha ha'
  by_cases h1 : b = -1
  · subst h1; exact num_quo_b1 a w ha ha'
  · exact num_quo_go a b w ha ha' hb hb' h0 h1

theorem num_rem_b0 (a : Int) (w : World) (ha : -9223372036854775808 ≤ a) (ha' : a ≤ 9223372036854775807) :
    Calls Tryd.prog 60 #[.string ⟨#[37]⟩, .int .i64 a, .int .i64 0] w fun e w' => e = .returned (.tuple #[(numV 37 a 0).v, .string (numW 37 a 0)]) ∧ Ext w w' := by
  obtain ⟨k1, k2⟩ := numV_b0 37 a 0 (by decide) (by decide) (by decide) rfl
  rw [k1, k2]
  clear k1 k2
  go_enter Tryd.func60, Tryd.ntmps60
  go_wp2_with fail
  exact bodyPost_ret (v := .tuple #[Vl.zero.v, .string sZero]) (by simp [results, Tryd.results60, go_sem, sZero, Vl.zero]) rfl ⟨rfl, (Ext.refl w).alloc _⟩

theorem num_rem_b1 (a : Int) (w : World) (ha : -9223372036854775808 ≤ a) (ha' : a ≤ 9223372036854775807) :
    Calls Tryd.prog 60 #[.string ⟨#[37]⟩, .int .i64 a, .int .i64 (-1)] w fun e w' => e = .returned (.tuple #[(numV 37 a (-1)).v, .string (numW 37 a (-1))]) ∧ Ext w w' := by
  obtain ⟨k1, k2⟩ := numV_rem1 a
  rw [k1, k2]
  clear k1 k2
  go_enter Tryd.func60, Tryd.ntmps60
  go_wp2_with (first
    | (go_at_call 16; refine (int_any _ _).mono ?_; rintro e w'' ⟨rfl, he⟩; have hz := he.lt1; obtain ⟨p1, p2⟩ := he.cells))
  exact bodyPost_ret (v := .tuple #[(Vl.mk 2 (0) sNone).v, .string sNone]) (by simp [results, Tryd.results60, go_sem, sNone, *]) rfl ⟨rfl, (((((Ext.refl w).alloc _).trans he).setCell (Nat.le_refl _) _).setCell (Nat.le_refl _) _).setCell (Nat.le_refl _) _⟩

theorem num_rem_go (a b : Int) (w : World) (ha : -9223372036854775808 ≤ a) (ha' : a ≤ 9223372036854775807) (hb : -9223372036854775808 ≤ b) (hb' : b ≤ 9223372036854775807) (h0 : ¬ b = 0) (h1 : ¬ b = -1) :
    Calls Tryd.prog 60 #[.string ⟨#[37]⟩, .int .i64 a, .int .i64 b] w fun e w' => e = .returned (.tuple #[(numV 37 a b).v, .string (numW 37 a b)]) ∧ Ext w w' := by
  rw [(numV_rem a b h0 h1).1, (numV_rem a b h0 h1).2]
  have c0 : (b == 0) = false := by simp [h0]
  have c1 : (b == -1) = false := by simp [h1]
  go_enter Tryd.func60, Tryd.ntmps60
  go_wp2_with (first
    | (go_at_call 74; refine (divided_any a b _ ha ha' hb hb' h0 h1).mono ?_; rintro e w1 ⟨rfl, hd⟩; have hzd := hd.lt1; obtain ⟨d1, d2⟩ := hd.cells)
    | (go_at_call 16; refine (int_any _ _).mono ?_; rintro e w'' ⟨rfl, he⟩; have hz := Nat.lt_of_lt_of_le hzd he.le; obtain ⟨p1, p2⟩ := he.cells))
  exact bodyPost_ret (v := .tuple #[(Vl.mk 2 (remV a b) sNone).v, .string sNone]) (by simp [results, Tryd.results60, go_sem, sNone, *]) rfl ⟨rfl, ((((((Ext.refl w).alloc _).trans hd).trans he).setCell (Nat.le_refl _) _).setCell (Nat.le_refl _) _).setCell (Nat.le_refl _) _⟩

theorem num_rem (a b : Int) (w : World) (ha : -9223372036854775808 ≤ a) (ha' : a ≤ 9223372036854775807) (hb : -9223372036854775808 ≤ b) (hb' : b ≤ 9223372036854775807) :
    Calls Tryd.prog 60 #[.string ⟨#[37]⟩, .int .i64 a, .int .i64 b] w fun e w' => e = .returned (.tuple #[(numV 37 a b).v, .string (numW 37 a b)]) ∧ Ext w w' := by
  by_cases h0 : b = 0
  · subst h0; exact num_rem_b0 a w ha ha'
  by_cases h1 : b = -1
  · subst h1; exact num_rem_b1 a w ha ha'
  · exact num_rem_go a b w ha ha' hb hb' h0 h1

theorem rnum_quo_b0 (a : Int) (w : World) (ha : -9223372036854775808 ≤ a) (ha' : a ≤ 9223372036854775807) :
    Calls Tryd.prog 28 #[.string ⟨#[47]⟩, .int .i64 a, .int .i64 0] w fun e w' => e = .returned (.tuple #[(numV 47 a 0).v, .string (numW 47 a 0)]) ∧ Ext w w' := by
  obtain ⟨k1, k2⟩ := numV_b0 47 a 0 (by decide) (by decide) (by decide) rfl
  rw [k1, k2]
  clear k1 k2
  go_enter Tryd.func28, Tryd.ntmps28
  go_wp2_with fail
  exact bodyPost_ret (v := .tuple #[Vl.zero.v, .string sZero]) (by simp [results, Tryd.results28, go_sem, sZero, Vl.zero]) rfl ⟨rfl, (Ext.refl w).alloc _⟩

theorem rnum_quo_b1 (a : Int) (w : World) (ha : -9223372036854775808 ≤ a) (ha' : a ≤ 9223372036854775807) :
    Calls Tryd.prog 28 #[.string ⟨#[47]⟩, .int .i64 a, .int .i64 (-1)] w fun e w' => e = .returned (.tuple #[(numV 47 a (-1)).v, .string (numW 47 a (-1))]) ∧ Ext w w' := by
  obtain ⟨k1, k2⟩ := numV_quo1 a
  rw [k1, k2]
  clear k1 k2
  cases h : inI64 (-a)
  · obtain ⟨k1, k2⟩ := fitL_no h
    rw [k1, k2]
    have H := Lib.hid h
    clear k1 k2 h
    go_enter Tryd.func28, Tryd.ntmps28
    go_wp2_with (first
      | (go_at_call 50; refine (rdivided_one a _ ha ha').mono ?_; rintro e w' ⟨rfl, rfl⟩; rw [H.out]))
    exact bodyPost_ret (v := .tuple #[Vl.zero.v, .string sOver]) (by simp [results, Tryd.results28, go_sem, sOver, Vl.zero]) rfl ⟨rfl, (Ext.refl w).alloc _⟩
  · obtain ⟨k1, k2, k3⟩ := fitL_yes h
    rw [k1, k2]
    have H := Lib.hid h
    have K3 := Lib.hid k3
    clear k1 k2 k3 h
    go_enter Tryd.func28, Tryd.ntmps28
    go_wp2_with (first
      | (go_at_call 50; refine (rdivided_one a _ ha ha').mono ?_; rintro e w' ⟨rfl, rfl⟩; rw [H.out, K3.out])
      | (go_at_call 49; refine (rint_any _ _).mono ?_; rintro e w'' ⟨rfl, he⟩; have hz := he.lt1; obtain ⟨p1, p2⟩ := he.cells))
    exact bodyPost_ret (v := .tuple #[(Vl.mk 2 (-a) sNone).v, .string sNone]) (by simp [results, Tryd.results28, go_sem, sNone, *]) rfl ⟨rfl, (((((Ext.refl w).alloc _).trans he).setCell (Nat.le_refl _) _).setCell (Nat.le_refl _) _).setCell (Nat.le_refl _) _⟩

theorem rnum_quo_go (a b : Int) (w : World) (ha : -9223372036854775808 ≤ a) (ha' : a ≤ 9223372036854775807) (hb : -9223372036854775808 ≤ b) (hb' : b ≤ 9223372036854775807) (h0 : ¬ b = 0) (h1 : ¬ b = -1) :
    Calls Tryd.prog 28 #[.string ⟨#[47]⟩, .int .i64 a, .int .i64 b] w fun e w' => e = .returned (.tuple #[(numV 47 a b).v, .string (numW 47 a b)]) ∧ Ext w w' := by
  rw [(numV_quo a b h0 h1).1, (numV_quo a b h0 h1).2]
  have c0 : (b == 0) = false := by simp [h0]
  have c1 : (b == -1) = false := by simp [h1]
  go_enter Tryd.func28, Tryd.ntmps28
  go_wp2_with (first
    | (go_at_call 50; refine (rdivided_any a b _ ha ha' hb hb' h0 h1).mono ?_; rintro e w1 ⟨rfl, hd⟩; have hzd := hd.lt1; obtain ⟨d1, d2⟩ := hd.cells)
    | (go_at_call 49; refine (rint_any _ _).mono ?_; rintro e w'' ⟨rfl, he⟩; have hz := Nat.lt_of_lt_of_le hzd he.le; obtain ⟨p1, p2⟩ := he.cells))
  exact bodyPost_ret (v := .tuple #[(Vl.mk 2 (quoV a b) sNone).v, .string sNone]) (by simp [results, Tryd.results28, go_sem, sNone, *]) rfl ⟨rfl, ((((((Ext.refl w).alloc _).trans hd).trans he).setCell (Nat.le_refl _) _).setCell (Nat.le_refl _) _).setCell (Nat.le_refl _) _⟩

theorem rnum_quo (a b : Int) (w : World) (ha : -9223372036854775808 ≤ a) (ha' : a ≤ 9223372036854775807) (hb : -9223372036854775808 ≤ b) (hb' : b ≤ 9223372036854775807) :
    Calls Tryd.prog 28 #[.string ⟨#[47]⟩, .int .i64 a, .int .i64 b] w fun e w' => e = .returned (.tuple #[(numV 47 a b).v, .string (numW 47 a b)]) ∧ Ext w w' := by
  by_cases h0 : b = 0
  · subst h0; exact rnum_quo_b0 a w ha ha'
  by_cases h1 : b = -1
  · subst h1; exact rnum_quo_b1 a w ha ha'
  · exact rnum_quo_go a b w ha ha' hb hb' h0 h1

theorem rnum_rem_b0 (a : Int) (w : World) (ha : -9223372036854775808 ≤ a) (ha' : a ≤ 9223372036854775807) :
    Calls Tryd.prog 28 #[.string ⟨#[37]⟩, .int .i64 a, .int .i64 0] w fun e w' => e = .returned (.tuple #[(numV 37 a 0).v, .string (numW 37 a 0)]) ∧ Ext w w' := by
  obtain ⟨k1, k2⟩ := numV_b0 37 a 0 (by decide) (by decide) (by decide) rfl
  rw [k1, k2]
  clear k1 k2
  go_enter Tryd.func28, Tryd.ntmps28
  go_wp2_with fail
  exact bodyPost_ret (v := .tuple #[Vl.zero.v, .string sZero]) (by simp [results, Tryd.results28, go_sem, sZero, Vl.zero]) rfl ⟨rfl, (Ext.refl w).alloc _⟩

theorem rnum_rem_b1 (a : Int) (w : World) (ha : -9223372036854775808 ≤ a) (ha' : a ≤ 9223372036854775807) :
    Calls Tryd.prog 28 #[.string ⟨#[37]⟩, .int .i64 a, .int .i64 (-1)] w fun e w' => e = .returned (.tuple #[(numV 37 a (-1)).v, .string (numW 37 a (-1))]) ∧ Ext w w' := by
  obtain ⟨k1, k2⟩ := numV_rem1 a
  rw [k1, k2]
  clear k1 k2
  go_enter Tryd.func28, Tryd.ntmps28
  go_wp2_with (first
    | (go_at_call 49; refine (rint_any _ _).mono ?_; rintro e w'' ⟨rfl, he⟩; have hz := he.lt1; obtain ⟨p1, p2⟩ := he.cells))
  exact bodyPost_ret (v := .tuple #[(Vl.mk 2 (0) sNone).v, .string sNone]) (by simp [results, Tryd.results28, go_sem, sNone, *]) rfl ⟨rfl, (((((Ext.refl w).alloc _).trans he).setCell (Nat.le_refl _) _).setCell (Nat.le_refl _) _).setCell (Nat.le_refl _) _⟩

theorem rnum_rem_go (a b : Int) (w : World) (ha : -9223372036854775808 ≤ a) (ha' : a ≤ 9223372036854775807) (hb : -9223372036854775808 ≤ b) (hb' : b ≤ 9223372036854775807) (h0 : ¬ b = 0) (h1 : ¬ b = -1) :
    Calls Tryd.prog 28 #[.string ⟨#[37]⟩, .int .i64 a, .int .i64 b] w fun e w' => e = .returned (.tuple #[(numV 37 a b).v, .string (numW 37 a b)]) ∧ Ext w w' := by
  rw [(numV_rem a b h0 h1).1, (numV_rem a b h0 h1).2]
  have c0 : (b == 0) = false := by simp [h0]
  have c1 : (b == -1) = false := by simp [h1]
  go_enter Tryd.func28, Tryd.ntmps28
  go_wp2_with (first
    | (go_at_call 50; refine (rdivided_any a b _ ha ha' hb hb' h0 h1).mono ?_; rintro e w1 ⟨rfl, hd⟩; have hzd := hd.lt1; obtain ⟨d1, d2⟩ := hd.cells)
    | (go_at_call 49; refine (rint_any _ _).mono ?_; rintro e w'' ⟨rfl, he⟩; have hz := Nat.lt_of_lt_of_le hzd he.le; obtain ⟨p1, p2⟩ := he.cells))
  exact bodyPost_ret (v := .tuple #[(Vl.mk 2 (remV a b) sNone).v, .string sNone]) (by simp [results, Tryd.results28, go_sem, sNone, *]) rfl ⟨rfl, ((((((Ext.refl w).alloc _).trans hd).trans he).setCell (Nat.le_refl _) _).setCell (Nat.le_refl _) _).setCell (Nat.le_refl _) _⟩

theorem rnum_rem (a b : Int) (w : World) (ha : -9223372036854775808 ≤ a) (ha' : a ≤ 9223372036854775807) (hb : -9223372036854775808 ≤ b) (hb' : b ≤ 9223372036854775807) :
    Calls Tryd.prog 28 #[.string ⟨#[37]⟩, .int .i64 a, .int .i64 b] w fun e w' => e = .returned (.tuple #[(numV 37 a b).v, .string (numW 37 a b)]) ∧ Ext w w' := by
  by_cases h0 : b = 0
  · subst h0; exact rnum_rem_b0 a w ha ha'
  by_cases h1 : b = -1
  · subst h1; exact rnum_rem_b1 a w ha ha'
  · exact rnum_rem_go a b w ha ha' hb hb' h0 h1
end Go.Proofs.YtidjibghicejaaaDoor
