/- Contracts of the leaf functions of package values (layer 14) and of its reference: sums, differences, quotients, values, checks. -/
import Derived.Test.YtidjibghicejaaaDoorBase
import Derived.Test.YtidjibghicejaaaDoorProg
namespace Go.Proofs.YtidjibghicejaaaDoor
open Go.RowKit
set_option linter.unusedVariables false

def inI64 (n : Int) : Bool := decide (-9223372036854775808 ≤ n ∧ n ≤ 9223372036854775807)
theorem inI64_yes {n : Int} (h : -9223372036854775808 ≤ n) (h' : n ≤ 9223372036854775807) : inI64 n = true := decide_eq_true ⟨h, h'⟩
theorem inI64_no {n : Int} (h : n < -9223372036854775808 ∨ 9223372036854775807 < n) : inI64 n = false := decide_eq_false (by omega)
def fitV (n : Int) : Int := if inI64 n then n else 0
theorem fit_yes {n m : Int} (h : -9223372036854775808 ≤ n) (h' : n ≤ 9223372036854775807) (e : m = n) : Value.int .i64 m = .int .i64 (fitV n) ∧ Value.bool true = .bool (inI64 n) := by
  subst e; simp [fitV, inI64_yes h h']
theorem fit_no {n m : Int} (h : n < -9223372036854775808 ∨ 9223372036854775807 < n) (e : m = 0) : Value.int .i64 m = .int .i64 (fitV n) ∧ Value.bool false = .bool (inI64 n) := by
  subst e; simp [fitV, inI64_no h]

theorem plus_any (a b : Int) (w : World) (ha : -9223372036854775808 ≤ a) (ha' : a ≤ 9223372036854775807) (hb : -9223372036854775808 ≤ b) (hb' : b ≤ 9223372036854775807) :
    Calls Tryd.prog 71 #[.int .i64 a, .int .i64 b] w fun e w' => e = .returned (.tuple #[.int .i64 (fitV (a + b)), .bool (inI64 (a + b))]) ∧ w = w' := by
  go_enter Tryd.func71, Tryd.ntmps71
  go_wp2
  all_goals (go_ret2; go_tidy; exact ⟨ret2_of (by first | exact fit_yes (by omega) (by omega) (by omega) | exact fit_no (by omega) (by omega)), rfl⟩)
theorem minus_any (a b : Int) (w : World) (ha : -9223372036854775808 ≤ a) (ha' : a ≤ 9223372036854775807) (hb : -9223372036854775808 ≤ b) (hb' : b ≤ 9223372036854775807) :
    Calls Tryd.prog 72 #[.int .i64 a, .int .i64 b] w fun e w' => e = .returned (.tuple #[.int .i64 (fitV (a - b)), .bool (inI64 (a - b))]) ∧ w = w' := by
  go_enter Tryd.func72, Tryd.ntmps72
  go_wp2
  all_goals (go_ret2; go_tidy; exact ⟨ret2_of (by first | exact fit_yes (by omega) (by omega) (by omega) | exact fit_no (by omega) (by omega)), rfl⟩)
theorem rplus_any (a b : Int) (w : World) (ha : -9223372036854775808 ≤ a) (ha' : a ≤ 9223372036854775807) (hb : -9223372036854775808 ≤ b) (hb' : b ≤ 9223372036854775807) :
    Calls Tryd.prog 46 #[.int .i64 a, .int .i64 b] w fun e w' => e = .returned (.tuple #[.int .i64 (fitV (a + b)), .bool (inI64 (a + b))]) ∧ w = w' := by
  go_enter Tryd.func46, Tryd.ntmps46
  go_wp2
  all_goals (go_ret2; go_tidy; exact ⟨ret2_of (by first | exact fit_yes (by omega) (by omega) (by omega) | exact fit_no (by omega) (by omega)), rfl⟩)
theorem rminus_any (a b : Int) (w : World) (ha : -9223372036854775808 ≤ a) (ha' : a ≤ 9223372036854775807) (hb : -9223372036854775808 ≤ b) (hb' : b ≤ 9223372036854775807) :
    Calls Tryd.prog 47 #[.int .i64 a, .int .i64 b] w fun e w' => e = .returned (.tuple #[.int .i64 (fitV (a - b)), .bool (inI64 (a - b))]) ∧ w = w' := by
  go_enter Tryd.func47, Tryd.ntmps47
  go_wp2
  all_goals (go_ret2; go_tidy; exact ⟨ret2_of (by first | exact fit_yes (by omega) (by omega) (by omega) | exact fit_no (by omega) (by omega)), rfl⟩)

/-- The quotient rounded down, and what is left. -/
def turns (a b : Int) : Prop := (a.tmod b < 0 ∧ 0 < b) ∨ (0 < a.tmod b ∧ b < 0)
instance (a b : Int) : Decidable (turns a b) := inferInstanceAs (Decidable ((a.tmod b < 0 ∧ 0 < b) ∨ (0 < a.tmod b ∧ b < 0)))
def quoV (a b : Int) : Int := if turns a b then a.tdiv b - 1 else a.tdiv b
def remV (a b : Int) : Int := if turns a b then a.tmod b + b else a.tmod b
theorem quo_bounds {a b : Int} (ha : -9223372036854775808 ≤ a) (ha' : a ≤ 9223372036854775807) (h0 : ¬ b = 0) (h1 : ¬ b = -1) :
    -9223372036854775808 ≤ a.tdiv b ∧ a.tdiv b ≤ 9223372036854775807 ∧ (¬ a.tmod b = 0 → -9223372036854775807 ≤ a.tdiv b) := by
  have e := Int.mul_tdiv_add_tmod a b
  have hab : (a.tdiv b).natAbs = a.natAbs / b.natAbs := Int.natAbs_tdiv a b
  by_cases hb : b = 1
  · subst hb; simp; omega
  · have h2 : 2 ≤ b.natAbs := by omega
    have : a.natAbs / b.natAbs ≤ a.natAbs / 2 := Nat.div_le_div_left h2 (by omega)
    omega
theorem rem_bounds {a b : Int} (h0 : ¬ b = 0) : -(b.natAbs : Int) < a.tmod b ∧ a.tmod b < b.natAbs := by
  have := Int.natAbs_tmod a b
  have h1 : a.natAbs % b.natAbs < b.natAbs := Nat.mod_lt _ (by omega)
  omega

theorem divided_any (a b : Int) (w : World) (ha : -9223372036854775808 ≤ a) (ha' : a ≤ 9223372036854775807) (hb : -9223372036854775808 ≤ b) (hb' : b ≤ 9223372036854775807) (h0 : ¬ b = 0) (h1 : ¬ b = -1) :
    Calls Tryd.prog 74 #[.int .i64 a, .int .i64 b] w fun e w' => e = .returned (.tuple #[.int .i64 (quoV a b), .int .i64 (remV a b)]) ∧ Ext w w' := by
  have hb0 : (b == 0) = false := by simp [h0]
  obtain ⟨q1, q2, q3⟩ := quo_bounds ha ha' h0 h1
  obtain ⟨r1, r2⟩ := rem_bounds (a := a) h0
  go_enter Tryd.func74, Tryd.ntmps74
  go_wp2
  go_quiet (fail)
  go_wp2
  all_goals (go_ret2; go_tidy; refine ⟨ret2_of ⟨int_eq ?_, int_eq ?_⟩, (Ext.refl w).drewN _⟩)
  all_goals (rename_i hx; revert hx; by_cases c1 : a.tmod b < 0 <;> by_cases c2 : b < 0 <;> simp [c1, c2, quoV, remV, turns] <;> (try intro hx) <;> (try rw [IntWalk.wrap64_in _ (by omega)]) <;> omega)
end Go.Proofs.YtidjibghicejaaaDoor
