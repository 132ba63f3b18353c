/- Contracts of products and quotients of package values and of its reference. -/
import Derived.Test.YtidjibghicejaaaDoorValA
import Derived.Test.YtidjibghicejaaaDoorShelf
namespace Go.Proofs.YtidjibghicejaaaDoor
open Go.RowKit
set_option linter.unusedVariables false

theorem size_any (a : Int) (w : World) (ha : -9223372036854775808 ≤ a) (ha' : a ≤ 9223372036854775807) :
    Calls Tryd.prog 102 #[.int .i64 a] w fun e w' => e = .returned (.int .u64 (a.natAbs : Int)) ∧ w = w' := by
  go_enter Tryd.func102, Tryd.ntmps102
  go_wp2
  all_goals (go_ret; go_tidy; exact ⟨ret_of (int_eq (by omega)), rfl⟩)

theorem mul_any (x y hi lo : Nat) (w : World) (h : Hid (hi = x * y / 18446744073709551616 ∧ lo = x * y % 18446744073709551616)) (hx : x ≤ 9223372036854775808) (hy : y ≤ 9223372036854775808) :
    Calls Tryd.prog 101 #[.int .u64 (x : Int), .int .u64 (y : Int)] w fun e w' => e = .returned (.tuple #[.int .u64 (hi : Int), .int .u64 (lo : Int)]) ∧ w = w' := by
  refine (Tryd.bits_Mul64 x y (by omega) (by omega) w).mono fun e w' ⟨he, hw⟩ => ⟨?_, hw.symm⟩
  rw [he, h.out.1, h.out.2]

theorem prod_sign (a b : Int) (P : Nat) (h : P = a.natAbs * b.natAbs) : ((decide (a < 0) == decide (b < 0)) = true → a * b = (P : Int)) ∧ ((decide (a < 0) == decide (b < 0)) = false → a * b = -(P : Int)) := by
  subst h
  by_cases c1 : a < 0 <;> by_cases c2 : b < 0 <;> simp only [c1, c2, decide_true, decide_false, beq_self_eq_true, Bool.true_eq_false, false_implies, true_implies, and_true, true_and, Bool.false_eq_true, Int.natCast_mul, show (true == false) = false from rfl, show (false == true) = false from rfl]
  · rw [show ((a.natAbs : Nat) : Int) = -a by omega, show ((b.natAbs : Nat) : Int) = -b by omega, Int.neg_mul_neg]
  · rw [show ((a.natAbs : Nat) : Int) = -a by omega, show ((b.natAbs : Nat) : Int) = b by omega, Int.neg_mul, Int.neg_neg]
  · rw [show ((a.natAbs : Nat) : Int) = a by omega, show ((b.natAbs : Nat) : Int) = -b by omega, Int.mul_neg, Int.neg_neg]
  · rw [show ((a.natAbs : Nat) : Int) = a by omega, show ((b.natAbs : Nat) : Int) = b by omega]

theorem times_go (a b : Int) (hi lo : Nat) (w : World) (ha : -9223372036854775808 ≤ a) (ha' : a ≤ 9223372036854775807) (hb : -9223372036854775808 ≤ b) (hb' : b ≤ 9223372036854775807)
    (h : Hid (hi = a.natAbs * b.natAbs / 18446744073709551616 ∧ lo = a.natAbs * b.natAbs % 18446744073709551616)) (hlo : lo ≤ 18446744073709551615) :
    Calls Tryd.prog 73 #[.int .i64 a, .int .i64 b] w fun e w' => e = .returned (.tuple #[.int .i64 (fitV (a * b)), .bool (inI64 (a * b))]) ∧ w = w' := by
  have hsa : a.natAbs ≤ 9223372036854775808 := by omega
  have hsb : b.natAbs ≤ 9223372036854775808 := by omega
  go_enter Tryd.func73, Tryd.ntmps73
  go_wp2_with (first
    | (go_at_call 102; refine (size_any _ _ (by omega) (by omega)).mono ?_; rintro e w' ⟨rfl, rfl⟩)
    | (go_at_call 101; refine (mul_any _ _ hi lo _ h (by omega) (by omega)).mono ?_; rintro e w' ⟨rfl, rfl⟩))
  all_goals (go_ret2; go_tidy; refine ⟨ret2_of ?_, rfl⟩; obtain ⟨k1, k2⟩ := h.out; obtain ⟨s1, s2⟩ := prod_sign a b _ rfl; generalize a.natAbs * b.natAbs = p at *)
  all_goals (cases hs : (decide (a < 0) == decide (b < 0)))
  all_goals first | have s := s1 hs | have s := s2 hs
  all_goals clear s1 s2
  all_goals first | exact fit_yes (by omega) (by omega) (by omega) | exact fit_no (by omega) (by omega) | (exfalso; simp [hs] at *; done) | (exfalso; simp [hs] at *; omega)

theorem times_any (a b : Int) (w : World) (ha : -9223372036854775808 ≤ a) (ha' : a ≤ 9223372036854775807) (hb : -9223372036854775808 ≤ b) (hb' : b ≤ 9223372036854775807) :
    Calls Tryd.prog 73 #[.int .i64 a, .int .i64 b] w fun e w' => e = .returned (.tuple #[.int .i64 (fitV (a * b)), .bool (inI64 (a * b))]) ∧ w = w' :=
  times_go a b _ _ w ha ha' hb hb' ⟨rfl, rfl⟩ (by omega)
end Go.Proofs.YtidjibghicejaaaDoor
