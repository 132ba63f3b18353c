/- Sums, differences, products, quotients and what is left, by their operators. -/
import Derived.Test.YtidjibghicejaaaDoorValH
namespace Go.Proofs.YtidjibghicejaaaDoor
open Go.RowKit
set_option linter.unusedVariables false

def fitL (n : Int) : Vl := if inI64 n then ⟨2, n, sNone⟩ else .zero
def fitW (n : Int) : ByteArray := if inI64 n then sNone else sOver
/-- What becomes of two numbers, by the operator's byte; what is refused. -/
def numV (o : Nat) (a b : Int) : Vl :=
  if o = 43 then fitL (a + b) else if o = 45 then fitL (a - b) else if o = 42 then fitL (a * b) else if b = 0 then .zero
  else if o = 47 then (if b = -1 then fitL (-a) else ⟨2, quoV a b, sNone⟩) else (if b = -1 then ⟨2, 0, sNone⟩ else ⟨2, remV a b, sNone⟩)
def numW (o : Nat) (a b : Int) : ByteArray :=
  if o = 43 then fitW (a + b) else if o = 45 then fitW (a - b) else if o = 42 then fitW (a * b) else if b = 0 then sZero
  else if o = 47 then (if b = -1 then fitW (-a) else sNone) else sNone
theorem fitL_yes {n : Int} (h : inI64 n = true) : fitL n = ⟨2, n, sNone⟩ ∧ fitW n = sNone ∧ fitV n = n := by simp [fitL, fitW, fitV, h]
theorem fitL_no {n : Int} (h : inI64 n = false) : fitL n = .zero ∧ fitW n = sOver := by simp [fitL, fitW, h]

theorem num_plus (a b : Int) (w : World) (ha : -9223372036854775808 ≤ a) (ha' : a ≤ 9223372036854775807) (hb : -9223372036854775808 ≤ b) (hb' : b ≤ 9223372036854775807) :
    Calls Tryd.prog 60 #[.string ⟨#[43]⟩, .int .i64 a, .int .i64 b] w fun e w' => e = .returned (.tuple #[(numV 43 a b).v, .string (numW 43 a b)]) ∧ Ext w w' := by
  have e1 : numV 43 a b = fitL (a + b) := rfl
  have e2 : numW 43 a b = fitW (a + b) := rfl
  rw [e1, e2]
  clear e1 e2
  cases h : inI64 (a + b)
  · obtain ⟨k1, k2⟩ := fitL_no h
    rw [k1, k2]
    clear k1 k2
    go_enter Tryd.func60, Tryd.ntmps60
    go_wp2_with (first
      | (go_at_call 71; refine (plus_any a b _ ha ha' hb hb').mono ?_; rintro e w' ⟨rfl, rfl⟩)
      | (go_at_call 16; refine (int_any _ _).mono ?_; rintro e w'' ⟨rfl, he⟩))
    exact bodyPost_ret (v := .tuple #[Vl.zero.v, .string sOver]) (by simp [results, Tryd.results60, go_sem, sOver, Vl.zero]) rfl ⟨rfl, (Ext.refl w).alloc _⟩
  · obtain ⟨k1, k2, k3⟩ := fitL_yes h
    rw [k1, k2]
    have K3 := Lib.hid k3
    clear k1 k2 k3
    go_enter Tryd.func60, Tryd.ntmps60
    go_wp2_with (first
      | (go_at_call 71; refine (plus_any a b _ ha ha' hb hb').mono ?_; rintro e w' ⟨rfl, rfl⟩; rw [K3.out])
      | (go_at_call 16; refine (int_any _ _).mono ?_; rintro e w'' ⟨rfl, he⟩; have hz := he.lt1; obtain ⟨p1, p2⟩ := he.cells))
    exact bodyPost_ret (v := .tuple #[(Vl.mk 2 (a + b) sNone).v, .string sNone]) (by simp [results, Tryd.results60, go_sem, sNone, *]) rfl ⟨rfl, (((((Ext.refl w).alloc _).trans he).setCell (Nat.le_refl _) _).setCell (Nat.le_refl _) _).setCell (Nat.le_refl _) _⟩

theorem num_minus (a b : Int) (w : World) (ha : -9223372036854775808 ≤ a) (ha' : a ≤ 9223372036854775807) (hb : -9223372036854775808 ≤ b) (hb' : b ≤ 9223372036854775807) :
    Calls Tryd.prog 60 #[.string ⟨#[45]⟩, .int .i64 a, .int .i64 b] w fun e w' => e = .returned (.tuple #[(numV 45 a b).v, .string (numW 45 a b)]) ∧ Ext w w' := by
  have e1 : numV 45 a b = fitL (a - b) := rfl
  have e2 : numW 45 a b = fitW (a - b) := rfl
  rw [e1, e2]
  clear e1 e2
  cases h : inI64 (a - b)
  · obtain ⟨k1, k2⟩ := fitL_no h
    rw [k1, k2]
    clear k1 k2
    go_enter Tryd.func60, Tryd.ntmps60
    go_wp2_with (first
      | (go_at_call 72; refine (minus_any a b _ ha ha' hb hb').mono ?_; rintro e w' ⟨rfl, rfl⟩)
      | (go_at_call 16; refine (int_any _ _).mono ?_; rintro e w'' ⟨rfl, he⟩))
    exact bodyPost_ret (v := .tuple #[Vl.zero.v, .string sOver]) (by simp [results, Tryd.results60, go_sem, sOver, Vl.zero]) rfl ⟨rfl, (Ext.refl w).alloc _⟩
  · obtain ⟨k1, k2, k3⟩ := fitL_yes h
    rw [k1, k2]
    have K3 := Lib.hid k3
    clear k1 k2 k3
    go_enter Tryd.func60, Tryd.ntmps60
    go_wp2_with (first
      | (go_at_call 72; refine (minus_any a b _ ha ha' hb hb').mono ?_; rintro e w' ⟨rfl, rfl⟩; rw [K3.out])
      | (go_at_call 16; refine (int_any _ _).mono ?_; rintro e w'' ⟨rfl, he⟩; have hz := he.lt1; obtain ⟨p1, p2⟩ := he.cells))
    exact bodyPost_ret (v := .tuple #[(Vl.mk 2 (a - b) sNone).v, .string sNone]) (by simp [results, Tryd.results60, go_sem, sNone, *]) rfl ⟨rfl, (((((Ext.refl w).alloc _).trans he).setCell (Nat.le_refl _) _).setCell (Nat.le_refl _) _).setCell (Nat.le_refl _) _⟩

theorem num_times (a b : Int) (w : World) (ha : -9223372036854775808 ≤ a) (ha' : a ≤ 9223372036854775807) (hb : -9223372036854775808 ≤ b) (hb' : b ≤ 9223372036854775807) :
    Calls Tryd.prog 60 #[.string ⟨#[42]⟩, .int .i64 a, .int .i64 b] w fun e w' => e = .returned (.tuple #[(numV 42 a b).v, .string (numW 42 a b)]) ∧ Ext w w' := by
  have e1 : numV 42 a b = fitL (a * b) := rfl
  have e2 : numW 42 a b = fitW (a * b) := rfl
  rw [e1, e2]
  clear e1 e2
  cases h : inI64 (a * b)
  · obtain ⟨k1, k2⟩ := fitL_no h
    rw [k1, k2]
    clear k1 k2
    go_enter Tryd.func60, Tryd.ntmps60
    go_wp2_with (first
      | (go_at_call 73; refine (times_any a b _ ha ha' hb hb').mono ?_; rintro e w' ⟨rfl, rfl⟩)
      | (go_at_call 16; refine (int_any _ _).mono ?_; rintro e w'' ⟨rfl, he⟩))
    exact bodyPost_ret (v := .tuple #[Vl.zero.v, .string sOver]) (by simp [results, Tryd.results60, go_sem, sOver, Vl.zero]) rfl ⟨rfl, (Ext.refl w).alloc _⟩
  · obtain ⟨k1, k2, k3⟩ := fitL_yes h
    rw [k1, k2]
    have K3 := Lib.hid k3
    clear k1 k2 k3
    go_enter Tryd.func60, Tryd.ntmps60
    go_wp2_with (first
      | (go_at_call 73; refine (times_any a b _ ha ha' hb hb').mono ?_; rintro e w' ⟨rfl, rfl⟩; rw [K3.out])
      | (go_at_call 16; refine (int_any _ _).mono ?_; rintro e w'' ⟨rfl, he⟩; have hz := he.lt1; obtain ⟨p1, p2⟩ := he.cells))
    exact bodyPost_ret (v := .tuple #[(Vl.mk 2 (a * b) sNone).v, .string sNone]) (by simp [results, Tryd.results60, go_sem, sNone, *]) rfl ⟨rfl, (((((Ext.refl w).alloc _).trans he).setCell (Nat.le_refl _) _).setCell (Nat.le_refl _) _).setCell (Nat.le_refl _) _⟩

theorem rnum_plus (a b : Int) (w : World) (ha : -9223372036854775808 ≤ a) (ha' : a ≤ 9223372036854775807) (hb : -9223372036854775808 ≤ b) (hb' : b ≤ 9223372036854775807) :
    Calls Tryd.prog 28 #[.string ⟨#[43]⟩, .int .i64 a, .int .i64 b] w fun e w' => e = .returned (.tuple #[(numV 43 a b).v, .string (numW 43 a b)]) ∧ Ext w w' := by
  have e1 : numV 43 a b = fitL (a + b) := rfl
  have e2 : numW 43 a b = fitW (a + b) := rfl
  rw [e1, e2]
  clear e1 e2
  cases h : inI64 (a + b)
  · obtain ⟨k1, k2⟩ := fitL_no h
    rw [k1, k2]
    clear k1 k2
    go_enter Tryd.func28, Tryd.ntmps28
    go_wp2_with (first
      | (go_at_call 46; refine (rplus_any a b _ ha ha' hb hb').mono ?_; rintro e w' ⟨rfl, rfl⟩)
      | (go_at_call 49; refine (rint_any _ _).mono ?_; rintro e w'' ⟨rfl, he⟩))
    exact bodyPost_ret (v := .tuple #[Vl.zero.v, .string sOver]) (by simp [results, Tryd.results28, go_sem, sOver, Vl.zero]) rfl ⟨rfl, (Ext.refl w).alloc _⟩
  · obtain ⟨k1, k2, k3⟩ := fitL_yes h
    rw [k1, k2]
    have K3 := Lib.hid k3
    clear k1 k2 k3
    go_enter Tryd.func28, Tryd.ntmps28
    go_wp2_with (first
      | (go_at_call 46; refine (rplus_any a b _ ha ha' hb hb').mono ?_; rintro e w' ⟨rfl, rfl⟩; rw [K3.out])
      | (go_at_call 49; refine (rint_any _ _).mono ?_; rintro e w'' ⟨rfl, he⟩; have hz := he.lt1; obtain ⟨p1, p2⟩ := he.cells))
    exact bodyPost_ret (v := .tuple #[(Vl.mk 2 (a + b) sNone).v, .string sNone]) (by simp [results, Tryd.results28, go_sem, sNone, *]) rfl ⟨rfl, (((((Ext.refl w).alloc _).trans he).setCell (Nat.le_refl _) _).setCell (Nat.le_refl _) _).setCell (Nat.le_refl _) _⟩

theorem rnum_minus (a b : Int) (w : World) (ha : -9223372036854775808 ≤ a) (ha' : a ≤ 9223372036854775807) (hb : -9223372036854775808 ≤ b) (hb' : b ≤ 9223372036854775807) :
    Calls Tryd.prog 28 #[.string ⟨#[45]⟩, .int .i64 a, .int .i64 b] w fun e w' => e = .returned (.tuple #[(numV 45 a b).v, .string (numW 45 a b)]) ∧ Ext w w' := by
  have e1 : numV 45 a b = fitL (a - b) := rfl
  have e2 : numW 45 a b = fitW (a - b) := rfl
  rw [e1, e2]
  clear e1 e2
  cases h : inI64 (a - b)
  · obtain ⟨k1, k2⟩ := fitL_no h
    rw [k1, k2]
    clear k1 k2
    go_enter Tryd.func28, Tryd.ntmps28
    go_wp2_with (first
      | (go_at_call 47; refine (rminus_any a b _ ha ha' hb hb').mono ?_; rintro e w' ⟨rfl, rfl⟩)
      | (go_at_call 49; refine (rint_any _ _).mono ?_; rintro e w'' ⟨rfl, he⟩))
    exact bodyPost_ret (v := .tuple #[Vl.zero.v, .string sOver]) (by simp [results, Tryd.results28, go_sem, sOver, Vl.zero]) rfl ⟨rfl, (Ext.refl w).alloc _⟩
  · obtain ⟨k1, k2, k3⟩ := fitL_yes h
    rw [k1, k2]
    have K3 := Lib.hid k3
    clear k1 k2 k3
    go_enter Tryd.func28, Tryd.ntmps28
    go_wp2_with (first
      | (go_at_call 47; refine (rminus_any a b _ ha ha' hb hb').mono ?_; rintro e w' ⟨rfl, rfl⟩; rw [K3.out])
      | (go_at_call 49; refine (rint_any _ _).mono ?_; rintro e w'' ⟨rfl, he⟩; have hz := he.lt1; obtain ⟨p1, p2⟩ := he.cells))
    exact bodyPost_ret (v := .tuple #[(Vl.mk 2 (a - b) sNone).v, .string sNone]) (by simp [results, Tryd.results28, go_sem, sNone, *]) rfl ⟨rfl, (((((Ext.refl w).alloc _).trans he).setCell (Nat.le_refl _) _).setCell (Nat.le_refl _) _).setCell (Nat.le_refl _) _⟩

theorem rnum_times (a b : Int) (w : World) (ha : -9223372036854775808 ≤ a) (ha' : a ≤ 9223372036854775807) (hb : -9223372036854775808 ≤ b) (hb' : b ≤ 9223372036854775807) :
    Calls Tryd.prog 28 #[.string ⟨#[42]⟩, .int .i64 a, .int .i64 b] w fun e w' => e = .returned (.tuple #[(numV 42 a b).v, .string (numW 42 a b)]) ∧ Ext w w' := by
  have e1 : numV 42 a b = fitL (a * b) := rfl
  have e2 : numW 42 a b = fitW (a * b) := rfl
  rw [e1, e2]
  clear e1 e2
  cases h : inI64 (a * b)
  · obtain ⟨k1, k2⟩ := fitL_no h
    rw [k1, k2]
    clear k1 k2
    go_enter Tryd.func28, Tryd.ntmps28
    go_wp2_with (first
      | (go_at_call 48; refine (rtimes_any a b _ ha ha' hb hb').mono ?_; rintro e w' ⟨rfl, rfl⟩)
      | (go_at_call 49; refine (rint_any _ _).mono ?_; rintro e w'' ⟨rfl, he⟩))
    exact bodyPost_ret (v := .tuple #[Vl.zero.v, .string sOver]) (by simp [results, Tryd.results28, go_sem, sOver, Vl.zero]) rfl ⟨rfl, (Ext.refl w).alloc _⟩
  · obtain ⟨k1, k2, k3⟩ := fitL_yes h
    rw [k1, k2]
    have K3 := Lib.hid k3
    clear k1 k2 k3
    go_enter Tryd.func28, Tryd.ntmps28
    go_wp2_with (first
      | (go_at_call 48; refine (rtimes_any a b _ ha ha' hb hb').mono ?_; rintro e w' ⟨rfl, rfl⟩; rw [K3.out])
      | (go_at_call 49; refine (rint_any _ _).mono ?_; rintro e w'' ⟨rfl, he⟩; have hz := he.lt1; obtain ⟨p1, p2⟩ := he.cells))
    exact bodyPost_ret (v := .tuple #[(Vl.mk 2 (a * b) sNone).v, .string sNone]) (by simp [results, Tryd.results28, go_sem, sNone, *]) rfl ⟨rfl, (((((Ext.refl w).alloc _).trans he).setCell (Nat.le_refl _) _).setCell (Nat.le_refl _) _).setCell (Nat.le_refl _) _⟩
end Go.Proofs.YtidjibghicejaaaDoor
