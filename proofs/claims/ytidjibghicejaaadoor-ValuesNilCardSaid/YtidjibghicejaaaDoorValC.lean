/- Contracts of products and quotients of the reference of layer 14. -/
import Derived.Test.YtidjibghicejaaaDoorValB
namespace Go.Proofs.YtidjibghicejaaaDoor
open Go.RowKit
set_option linter.unusedVariables false

theorem tdiv_small {M b : Int} (hM : 0 ≤ M) (hM' : M ≤ 9223372036854775808) (h0 : ¬ b = 0) (h1 : b = -1 → M ≤ 9223372036854775807) (h2 : b = 1 → M ≤ 9223372036854775807) : -9223372036854775808 ≤ M.tdiv b ∧ M.tdiv b ≤ 9223372036854775807 := by
  have e : (M.tdiv b).natAbs = M.natAbs / b.natAbs := Int.natAbs_tdiv M b
  by_cases hb : b.natAbs = 1
  · rw [hb, Nat.div_one] at e
    omega
  · have : M.natAbs / b.natAbs ≤ M.natAbs / 2 := Nat.div_le_div_left (by omega) (by omega)
    omega
theorem quo_lt_of {M n d : Int} (hd : 0 < d) : M / d < n ↔ M < n * d := Int.ediv_lt_iff_lt_mul hd
theorem both_neg {a b : Int} (sb : b < 0) : a < wrap64 (Int.tdiv 9223372036854775807 b) ↔ 9223372036854775807 < a * b := by
  have h := tdiv_small (M := 9223372036854775807) (b := b) (by omega) (by omega) (by omega) (by omega) (by omega)
  rw [IntWalk.wrap64_in _ h]
  obtain ⟨d, rfl⟩ : ∃ d, b = -d := ⟨-b, by omega⟩
  rw [Int.tdiv_neg, Int.tdiv_eq_ediv_of_nonneg (by omega)]
  have h1 := quo_lt_of (M := 9223372036854775807) (n := -a) (d := d) (by omega)
  have e : a * -d = (-a) * d := by rw [Int.mul_neg, Int.neg_mul]
  rw [e, ← h1]; omega
theorem both_pos {a b : Int} (sb : 0 < b) : -a < wrap64 (-Int.tdiv 9223372036854775807 b) ↔ 9223372036854775807 < a * b := by
  have h := tdiv_small (M := 9223372036854775807) (b := b) (by omega) (by omega) (by omega) (by omega) (by omega)
  have h' : 0 ≤ Int.tdiv 9223372036854775807 b := Int.tdiv_nonneg (by omega) (by omega)
  rw [IntWalk.wrap64_in _ (by omega), Int.tdiv_eq_ediv_of_nonneg (by omega), ← quo_lt_of sb]
  omega
theorem neg_pos {a b : Int} (sb : 0 < b) : a < wrap64 (-Int.tdiv 9223372036854775808 b) ↔ a * b < -9223372036854775808 := by
  have hw : wrap64 (-Int.tdiv 9223372036854775808 b) = -Int.tdiv 9223372036854775808 b := by
    by_cases hb : b = 1
    · subst hb; simp [wrap64]
    · have h := tdiv_small (M := 9223372036854775808) (b := b) (by omega) (by omega) (by omega) (by omega) (by omega)
      have h' : 0 ≤ Int.tdiv 9223372036854775808 b := Int.tdiv_nonneg (by omega) (by omega)
      exact IntWalk.wrap64_in _ (by omega)
  rw [hw, Int.tdiv_eq_ediv_of_nonneg (by omega)]
  have h1 := quo_lt_of (M := 9223372036854775808) (n := -a) sb
  rw [Int.neg_mul] at h1
  omega
theorem pos_neg {a b : Int} (sb : b < 0) : -a < wrap64 (Int.tdiv 9223372036854775808 b) ↔ a * b < -9223372036854775808 := by
  have hw : wrap64 (Int.tdiv 9223372036854775808 b) = Int.tdiv 9223372036854775808 b := by
    by_cases hb : b = -1
    · subst hb; simp [wrap64]
    · have h := tdiv_small (M := 9223372036854775808) (b := b) (by omega) (by omega) (by omega) (by omega) (by omega)
      exact IntWalk.wrap64_in _ (by omega)
  rw [hw]
  obtain ⟨d, rfl⟩ : ∃ d, b = -d := ⟨-b, by omega⟩
  rw [Int.tdiv_neg, Int.tdiv_eq_ediv_of_nonneg (by omega)]
  have h1 := quo_lt_of (M := 9223372036854775808) (n := a) (d := d) (by omega)
  rw [Int.mul_neg]
  omega

theorem prod_sgn {a b : Int} (h1 : ¬ a = 0) (h2 : ¬ b = 0) : (0 < a * b ∨ a * b < 0) ∧ (a < 0 → b < 0 → 0 < a * b) ∧ (a < 0 → 0 < b → a * b < 0) ∧ (0 < a → b < 0 → a * b < 0) ∧ (0 < a → 0 < b → 0 < a * b) := by
  refine ⟨?_, fun p q => Int.mul_pos_of_neg_of_neg p q, fun p q => Int.mul_neg_of_neg_of_pos p q, fun p q => Int.mul_neg_of_pos_of_neg p q, fun p q => Int.mul_pos p q⟩
  have : a * b ≠ 0 := Int.mul_ne_zero h1 h2
  omega

theorem rtimes_any (a b : Int) (w : World) (ha : -9223372036854775808 ≤ a) (ha' : a ≤ 9223372036854775807) (hb : -9223372036854775808 ≤ b) (hb' : b ≤ 9223372036854775807) :
    Calls Tryd.prog 48 #[.int .i64 a, .int .i64 b] w fun e w' => e = .returned (.tuple #[.int .i64 (fitV (a * b)), .bool (inI64 (a * b))]) ∧ w = w' := by
  by_cases h0 : a = 0 ∨ b = 0
  · have hp : a * b = 0 := by rcases h0 with h | h <;> simp [h]
    go_enter Tryd.func48, Tryd.ntmps48
    rcases h0 with h | h <;> subst h
    all_goals go_wp2
    all_goals (go_ret2; go_tidy; refine ⟨ret2_of ?_, rfl⟩)
    all_goals exact fit_yes (by omega) (by omega) (by omega)
  · have h1 : ¬ a = 0 := fun h => h0 (.inl h)
    have h2 : ¬ b = 0 := fun h => h0 (.inr h)
    clear h0
    have e1 : (a == 0) = false := by simp [h1]
    have e2 : (b == 0) = false := by simp [h2]
    have Hs := Lib.hid (prod_sgn h1 h2)
    by_cases sa : a < 0 <;> by_cases sb : b < 0
    all_goals go_enter Tryd.func48, Tryd.ntmps48
    all_goals go_wp2
    all_goals (go_ret2; go_tidy; refine ⟨ret2_of ?_, rfl⟩; obtain ⟨_, s1, s2, s3, s4⟩ := Hs.out)
    all_goals first
      | (have hx := (both_neg sb).1 ‹_›; exact fit_no (by omega) (by omega))
      | (have hx := (both_pos (a := a) (b := b) (by omega)).1 ‹_›; exact fit_no (by omega) (by omega))
      | (have hx := (neg_pos (a := a) (b := b) (by omega)).1 ‹_›; exact fit_no (by omega) (by omega))
      | (have hx := (pos_neg (a := a) (b := b) (by omega)).1 ‹_›; exact fit_no (by omega) (by omega))
      | (have hx := mt (both_neg (a := a) sb).2 (Int.not_lt.2 ‹_›); exact fit_yes (by omega) (by omega) (IntWalk.wrap64_in _ (by omega)))
      | (have hx := mt (both_pos (a := a) (b := b) (by omega)).2 (Int.not_lt.2 ‹_›); exact fit_yes (by omega) (by omega) (by rw [Int.neg_mul_neg]; exact IntWalk.wrap64_in _ (by omega)))
      | (have hx := mt (neg_pos (a := a) (b := b) (by omega)).2 (Int.not_lt.2 ‹_›); exact fit_yes (by omega) (by omega) (IntWalk.wrap64_in _ (by omega)))
      | (have hx := mt (pos_neg (a := a) (b := b) (by omega)).2 (Int.not_lt.2 ‹_›); exact fit_yes (by omega) (by omega) (by rw [Int.neg_mul_neg]; exact IntWalk.wrap64_in _ (by omega)))
      | (have hx : (-a != -1) = true := by assumption
         have hy : ¬ -a = -1 := by simpa using hx
         exact fit_no (by omega) (by omega))
      | (have hx : (-a != -1) = false := by assumption
         have hy : -a = -1 := by simpa using hx
         exact fit_yes (by omega) (by omega) (by omega))
      | (clear ha ha' hb hb' h1 h2 e1 e2 s1 s2 s3 s4 Hs; trace_state)
end Go.Proofs.YtidjibghicejaaaDoor
