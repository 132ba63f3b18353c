/- Sums, products, quotients and what is left: the plain facts; Neg. -/
import Derived.Test.YtidjibghicejaaaDoorLawO
namespace Go.Proofs.YtidjibghicejaaaDoor
open Go.RowKit
set_option linter.unusedVariables false
set_option linter.unusedSimpArgs false

abbrev I (n : Int) : Vl := ⟨2, n, ⟨#[]⟩⟩
theorem ck_I (n : Int) : (I n).ck = true := by simp [Vl.ck, checkB]
theorem fits_I {n : Int} (h : -9223372036854775808 ≤ n ∧ n ≤ 9223372036854775807) : Fits (I n) := ⟨h.1, h.2, by show (⟨#[]⟩ : ByteArray).size ≤ 1048576; decide⟩
theorem z_quo (a b : Int) : opZ ⟨#[47]⟩ 0 0 (I a) (I b) = (numV 47 a b, numW 47 a b, 0) := by rw [opZ_3, opA_yes (ck_I a) (ck_I b)]; simp [opR, arV, arW]
theorem z_rem (a b : Int) : opZ ⟨#[37]⟩ 0 0 (I a) (I b) = (numV 37 a b, numW 37 a b, 0) := by rw [opZ_4, opA_yes (ck_I a) (ck_I b)]; simp [opR, arV, arW]
theorem z_mul (a b : Int) : opZ ⟨#[42]⟩ 0 0 (I a) (I b) = (fitL (a * b), fitW (a * b), 0) := by rw [opZ_2, opA_yes (ck_I a) (ck_I b)]; simp [opR, arV, arW, numV, numW]
theorem z_add (a b : Int) : opZ ⟨#[43]⟩ 0 0 (I a) (I b) = (fitL (a + b), fitW (a + b), 0) := by rw [opZ_0, opA_yes (ck_I a) (ck_I b)]; simp [opR, arV, arW, numV, numW]
theorem z_sub (a b : Int) : opZ ⟨#[45]⟩ 0 0 (I a) (I b) = (fitL (a - b), fitW (a - b), 0) := by rw [opZ_1, opA_yes (ck_I a) (ck_I b)]; simp [opR, arV, arW, numV, numW]
theorem ck_zero : Vl.ck .zero = true := by decide +kernel
theorem z_add0 (b : Int) : opZ ⟨#[43]⟩ 0 0 .zero (I b) = (.zero, sType, 0) := by rw [opZ_0, opA_yes ck_zero (ck_I b)]; simp [opR, arV, arW, Vl.zero]
theorem fit_in {n : Int} (h : -9223372036854775808 ≤ n ∧ n ≤ 9223372036854775807) : fitL n = I n ∧ fitW n = ⟨#[]⟩ := by
  have := fitL_yes (inI64_yes h.1 h.2)
  exact ⟨this.1, this.2.1⟩
theorem fit_out {n : Int} (h : ¬ (-9223372036854775808 ≤ n ∧ n ≤ 9223372036854775807)) : fitL n = .zero ∧ fitW n = sOver := fitL_no (inI64_no (by omega))
/-- The quotient and what is left of two numbers, where they do not go over. -/
theorem div_facts (a b : Int) (ha : -9223372036854775808 ≤ a ∧ a ≤ 9223372036854775807) (hb : -9223372036854775808 ≤ b ∧ b ≤ 9223372036854775807) (h0 : ¬ b = 0) (h1 : ¬ (b = -1 ∧ a = -9223372036854775808)) :
    ∃ Q R : Int, (-9223372036854775808 ≤ Q ∧ Q ≤ 9223372036854775807) ∧ (-9223372036854775808 ≤ R ∧ R ≤ 9223372036854775807) ∧ Q * b + R = a ∧ (R = 0 ∨ decide (R < 0) = decide (b < 0)) ∧ numV 47 a b = I Q ∧ numW 47 a b = ⟨#[]⟩ ∧ numV 37 a b = I R ∧ numW 37 a b = ⟨#[]⟩ := by
  by_cases hm : b = -1
  · subst hm
    have hr : -9223372036854775808 ≤ -a ∧ -a ≤ 9223372036854775807 := by omega
    obtain ⟨f1, f2⟩ := fit_in hr
    refine ⟨-a, 0, hr, by omega, by omega, .inl rfl, ?_, ?_, ?_, ?_⟩
    · simp [numV, f1]
    · simp [numW, f2]
    · simp [numV]; rfl
    · simp [numW]; rfl
  · obtain ⟨q1, q2⟩ := numV_quo a b h0 hm
    obtain ⟨r1, r2⟩ := numV_rem a b h0 hm
    refine ⟨quoV a b, remV a b, quoV_bounds ha.1 ha.2 h0 hm, remV_bounds hb.1 hb.2 h0, ?_, ?_, q1, q2, r1, r2⟩
    · have e := Int.tmod_add_mul_tdiv a b
      unfold quoV remV
      split
      · rw [Int.sub_mul, Int.one_mul, Int.mul_comm (a.tdiv b) b]; omega
      · rw [Int.mul_comm (a.tdiv b) b]; omega
    · unfold remV
      obtain ⟨r1, r2⟩ := rem_bounds (a := a) h0
      split
      · rename_i h
        unfold turns at h
        right
        rw [decide_eq_decide]
        omega
      · rename_i h
        unfold turns at h
        by_cases hz : a.tmod b = 0
        · exact .inl hz
        · right
          rw [decide_eq_decide]
          omega
set_option maxRecDepth 100000 in
set_option maxHeartbeats 1000000 in
theorem neg_any (a : Int) (ha : -9223372036854775808 ≤ a ∧ a ≤ 9223372036854775807) (w : World) : Calls Tryd.prog 17 #[(I a).v] w fun e w' => e = .returned (.tuple #[(fitL (-a)).v, .string (fitW (-a))]) ∧ Ext w w' := by
  by_cases hm : a = -9223372036854775808
  · subst hm
    obtain ⟨f1, f2⟩ := fit_out (n := 9223372036854775808) (by omega)
    rw [show -(-9223372036854775808 : Int) = 9223372036854775808 by omega, f1, f2]
    go_enter Tryd.func17, Tryd.ntmps17
    go_wp2_with fail
    refine (ck_any (I (-9223372036854775808)) true (ck_I _) _).mono ?_
    rintro e w2 ⟨rfl, he⟩
    have k2 := (((Ext.refl w).alloc _).alloc _).trans he
    obtain ⟨z1, z2⟩ := he.lt2
    obtain ⟨p1, p2⟩ := he.cells
    go_wp2_with fail
    exact bodyPost_ret (v := .tuple #[Vl.zero.v, .string sOver]) (by simp [results, Tryd.results17, go_sem, sOver, Vl.zero, *]) rfl ⟨rfl, ((k2.setCell (by simp) _).setCell (by simp) _).setCell (by simp) _⟩
  · have hr : -9223372036854775808 ≤ -a ∧ -a ≤ 9223372036854775807 := by omega
    obtain ⟨f1, f2⟩ := fit_in hr
    rw [f1, f2]
    have hn : (a == -9223372036854775808) = false := by simpa using hm
    clear f1 f2 hm
    go_enter Tryd.func17, Tryd.ntmps17
    go_wp2_with fail
    refine (ck_any (I a) true (ck_I _) _).mono ?_
    rintro e w2 ⟨rfl, he⟩
    have k2 := (((Ext.refl w).alloc _).alloc _).trans he
    obtain ⟨z1, z2⟩ := he.lt2
    obtain ⟨p1, p2⟩ := he.cells
    go_wp2_with fail
    refine (int_any (-a) _).mono ?_
    rintro e w3 ⟨rfl, e3⟩
    have k3 := k2.trans e3
    have he3 := he.trans e3
    clear z1 z2 p1 p2 he e3
    obtain ⟨z1, z2⟩ := he3.lt2
    obtain ⟨p1, p2⟩ := he3.cells
    go_wp2_with fail
    exact bodyPost_ret (v := .tuple #[(I (-a)).v, .string ⟨#[]⟩]) (by simp [results, Tryd.results17, go_sem, *]) rfl ⟨rfl, ((k3.setCell (by simp) _).setCell (by simp) _).setCell (by simp) _⟩
end Go.Proofs.YtidjibghicejaaaDoor
