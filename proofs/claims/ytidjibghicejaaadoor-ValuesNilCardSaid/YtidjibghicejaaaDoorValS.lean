/- What an operator makes of two values, by the reference (P14.2). -/
import Derived.Test.YtidjibghicejaaaDoorValN
import Derived.Test.YtidjibghicejaaaDoorValR
import Derived.Test.YtidjibghicejaaaDoorValP
namespace Go.Proofs.YtidjibghicejaaaDoor
open Go.RowKit
set_option linter.unusedVariables false
set_option linter.unusedSimpArgs false

theorem rck_any (a : Vl) (v : Bool) (h : a.ck = v) (w : World) : Calls Tryd.prog 14 #[a.v] w fun e w' => e = .returned (.bool v) ∧ Ext w w' := by
  subst h; exact rcheck_any a.k a.n a.s w
theorem sameB_comm (a b : Vl) (h : a.k = b.k ∧ a.n = b.n ∧ a.s.toList = b.s.toList) : sameB a b = true := by simp [sameB, h]
theorem cmpI_cases (a b : Int) : (a < b ∧ cmpI a b = -1) ∨ (b < a ∧ cmpI a b = 1) ∨ (a = b ∧ cmpI a b = 0) := by unfold cmpI; repeat' split <;> omega
theorem ordI_all (a b : Int) : ordI 0 a b = decide (a < b) ∧ ordI 1 a b = (decide (a < b) || a == b) ∧ ordI 2 a b = (!decide (a < b) && !(a == b)) ∧ ordI 3 a b = !decide (a < b) := by
  rcases cmpI_cases a b with ⟨h, e⟩ | ⟨h, e⟩ | ⟨h, e⟩ <;> simp [ordI, e] <;> omega
theorem ordS_all (a b : ByteArray) : ordS 0 a b = lessS a b ∧ ordS 1 a b = (lessS a b || a.toList == b.toList) ∧ ordS 2 a b = (!lessS a b && !(a.toList == b.toList)) ∧ ordS 3 a b = !lessS a b := by
  unfold ordS cmpS
  cases lessS a b <;> cases (a.toList == b.toList) <;> decide

theorem rop_0 (g : Nat) (tv : Value) (c sp : Int) (a b : Vl) (w : World) (h : RB w g tv c sp) (hs : 0 ≤ sp) (hc : sp ≤ c) (hc' : c ≤ 4611686018427387903) (ht : Pow w) (fa : Fits a) (fb : Fits b) :
    Calls Tryd.prog 12 #[.pointer (some ⟨g, 0, none⟩), .string ⟨#[43]⟩, a.v, b.v] w fun e w' => e = .returned (.tuple #[(opA 0 c sp a b).1.v, .string (opA 0 c sp a b).2.1]) ∧ Only g w w' ∧ RB w' g tv c (opA 0 c sp a b).2.2 := by
  have hk0 : ¬ w.heap.size = g := by have := h.lt; omega
  have hk1 : ¬ w.heap.size + 1 = g := by have := h.lt; omega
  have hk2 : ¬ w.heap.size + 2 = g := by have := h.lt; omega
  have h3 := (((Ext.refl w).alloc (.cells #[.int .i64 a.k, .int .i64 a.n, .string a.s] 24)).alloc (.cells #[.int .i64 b.k, .int .i64 b.n, .string b.s] 24)).alloc (.cells #[.int .i64 0, .int .i64 0, .string ⟨#[]⟩] 24)
  cases ca : a.ck
  · rw [opA_no1 ca]
    go_enter Tryd.func12, Tryd.ntmps12
    go_wp2_with fail
    refine (rck_any a false ca _).mono ?_
    rintro e w2 ⟨rfl, he⟩
    have k2 := he
    clear he
    obtain ⟨z1, z2, z3⟩ := k2.lt3
    obtain ⟨p1, p2⟩ := k2.cells
    go_wp2_with fail
    exact bodyPost_ret (v := .tuple #[(Vl.zero).v, .string sType]) (by simp [results, Tryd.results12, go_sem, sNone, sType, Vl.zero, b2i, *]) rfl ⟨rfl, (((Only.of_ext (h3.trans k2)).setCell (.inr (by simp <;> omega)) _).setCell (.inr (by simp <;> omega)) _).setCell (.inr (by simp <;> omega)) _, (((h.ext (h3.trans k2)).far (by simp <;> omega) _).far (by simp <;> omega) _).far (by simp <;> omega) _⟩
  cases cb : b.ck
  · rw [opA_no2 cb]
    go_enter Tryd.func12, Tryd.ntmps12
    go_wp2_with fail
    refine (rck_any a true ca _).mono ?_
    rintro e w2 ⟨rfl, he⟩
    have k2 := he
    clear he
    obtain ⟨z1, z2, z3⟩ := k2.lt3
    obtain ⟨p1, p2⟩ := k2.cells
    go_wp2_with fail
    refine (rck_any b false cb _).mono ?_
    rintro e w3 ⟨rfl, he⟩
    have k3 := k2.trans he
    clear z1 z2 z3 p1 p2 he
    obtain ⟨z1, z2, z3⟩ := k3.lt3
    obtain ⟨p1, p2⟩ := k3.cells
    go_wp2_with fail
    exact bodyPost_ret (v := .tuple #[(Vl.zero).v, .string sType]) (by simp [results, Tryd.results12, go_sem, sNone, sType, Vl.zero, b2i, *]) rfl ⟨rfl, (((Only.of_ext (h3.trans k3)).setCell (.inr (by simp <;> omega)) _).setCell (.inr (by simp <;> omega)) _).setCell (.inr (by simp <;> omega)) _, (((h.ext (h3.trans k3)).far (by simp <;> omega) _).far (by simp <;> omega) _).far (by simp <;> omega) _⟩
  rw [opA_yes ca cb]
  obtain ⟨xk, xn, xs⟩ := a
  obtain ⟨yk, yn, ys⟩ := b
  obtain ⟨a1, a2, a3⟩ := fa
  obtain ⟨b1, b2, b3⟩ := fb
  by_cases hx2 : xk = 2
  · subst hx2
    by_cases hy : yk = 2
    · subst hy
      rw [show opR 0 c sp ⟨2, xn, xs⟩ ⟨2, yn, ys⟩ = (numV 43 xn yn, numW 43 xn yn, sp) from by simp [opR, arV, arW]]
      go_enter Tryd.func12, Tryd.ntmps12
      go_wp2_with fail
      refine (rck_any ⟨2, xn, xs⟩ true ca _).mono ?_
      rintro e w2 ⟨rfl, he⟩
      have k2 := he
      clear he
      obtain ⟨z1, z2, z3⟩ := k2.lt3
      obtain ⟨p1, p2⟩ := k2.cells
      go_wp2_with fail
      refine (rck_any ⟨2, yn, ys⟩ true cb _).mono ?_
      rintro e w3 ⟨rfl, he⟩
      have k3 := k2.trans he
      clear z1 z2 z3 p1 p2 he
      obtain ⟨z1, z2, z3⟩ := k3.lt3
      obtain ⟨p1, p2⟩ := k3.cells
      go_wp2_with fail
      go_quiet (fail)
      have k4 := k3.drewN nq
      go_wp2_with fail
      refine (rnum_plus xn yn _ a1 a2 b1 b2).mono ?_
      rintro e w4 ⟨rfl, he⟩
      have k5 := k4.trans he
      clear z1 z2 z3 p1 p2 he
      obtain ⟨z1, z2, z3⟩ := k5.lt3
      obtain ⟨p1, p2⟩ := k5.cells
      go_wp2_with fail
      exact bodyPost_ret (v := .tuple #[(numV 43 xn yn).v, .string (numW 43 xn yn)]) (by simp [results, Tryd.results12, go_sem, sNone, sType, Vl.zero, b2i, *]) rfl ⟨rfl, (((Only.of_ext (h3.trans k5)).setCell (.inr (by simp <;> omega)) _).setCell (.inr (by simp <;> omega)) _).setCell (.inr (by simp <;> omega)) _, (((h.ext (h3.trans k5)).far (by simp <;> omega) _).far (by simp <;> omega) _).far (by simp <;> omega) _⟩
    · have hy' : (yk == 2) = false := by simp [hy]
      rw [show opR 0 c sp ⟨2, xn, xs⟩ ⟨yk, yn, ys⟩ = (.zero, sType, sp) from by simp [opR, arV, arW, hy]]
      go_enter Tryd.func12, Tryd.ntmps12
      go_wp2_with fail
      refine (rck_any ⟨2, xn, xs⟩ true ca _).mono ?_
      rintro e w2 ⟨rfl, he⟩
      have k2 := he
      clear he
      obtain ⟨z1, z2, z3⟩ := k2.lt3
      obtain ⟨p1, p2⟩ := k2.cells
      go_wp2_with fail
      refine (rck_any ⟨yk, yn, ys⟩ true cb _).mono ?_
      rintro e w3 ⟨rfl, he⟩
      have k3 := k2.trans he
      clear z1 z2 z3 p1 p2 he
      obtain ⟨z1, z2, z3⟩ := k3.lt3
      obtain ⟨p1, p2⟩ := k3.cells
      go_wp2_with fail
      go_quiet (fail)
      have k4 := k3.drewN nq
      go_wp2_with fail
      exact bodyPost_ret (v := .tuple #[(Vl.zero).v, .string sType]) (by simp [results, Tryd.results12, go_sem, sNone, sType, Vl.zero, b2i, *]) rfl ⟨rfl, (((Only.of_ext (h3.trans k4)).setCell (.inr (by simp <;> omega)) _).setCell (.inr (by simp <;> omega)) _).setCell (.inr (by simp <;> omega)) _, (((h.ext (h3.trans k4)).far (by simp <;> omega) _).far (by simp <;> omega) _).far (by simp <;> omega) _⟩
  have hx2' : (xk == 2) = false := by simp [hx2]
  by_cases hx3 : xk = 3
  · subst hx3
    rw [show opR 0 c sp ⟨3, xn, xs⟩ ⟨yk, yn, ys⟩ = (.zero, sType, sp) from by simp [opR, arV, arW]]
    go_enter Tryd.func12, Tryd.ntmps12
    go_wp2_with fail
    refine (rck_any ⟨3, xn, xs⟩ true ca _).mono ?_
    rintro e w2 ⟨rfl, he⟩
    have k2 := he
    clear he
    obtain ⟨z1, z2, z3⟩ := k2.lt3
    obtain ⟨p1, p2⟩ := k2.cells
    go_wp2_with fail
    refine (rck_any ⟨yk, yn, ys⟩ true cb _).mono ?_
    rintro e w3 ⟨rfl, he⟩
    have k3 := k2.trans he
    clear z1 z2 z3 p1 p2 he
    obtain ⟨z1, z2, z3⟩ := k3.lt3
    obtain ⟨p1, p2⟩ := k3.cells
    go_wp2_with fail
    go_quiet (fail)
    have k4 := k3.drewN nq
    go_wp2_with fail
    exact bodyPost_ret (v := .tuple #[(Vl.zero).v, .string sType]) (by simp [results, Tryd.results12, go_sem, sNone, sType, Vl.zero, b2i, *]) rfl ⟨rfl, (((Only.of_ext (h3.trans k4)).setCell (.inr (by simp <;> omega)) _).setCell (.inr (by simp <;> omega)) _).setCell (.inr (by simp <;> omega)) _, (((h.ext (h3.trans k4)).far (by simp <;> omega) _).far (by simp <;> omega) _).far (by simp <;> omega) _⟩
  · have hx3' : (xk == 3) = false := by simp [hx3]
    rw [show opR 0 c sp ⟨xk, xn, xs⟩ ⟨yk, yn, ys⟩ = (.zero, sType, sp) from by simp [opR, arV, arW, hx2]]
    go_enter Tryd.func12, Tryd.ntmps12
    go_wp2_with fail
    refine (rck_any ⟨xk, xn, xs⟩ true ca _).mono ?_
    rintro e w2 ⟨rfl, he⟩
    have k2 := he
    clear he
    obtain ⟨z1, z2, z3⟩ := k2.lt3
    obtain ⟨p1, p2⟩ := k2.cells
    go_wp2_with fail
    refine (rck_any ⟨yk, yn, ys⟩ true cb _).mono ?_
    rintro e w3 ⟨rfl, he⟩
    have k3 := k2.trans he
    clear z1 z2 z3 p1 p2 he
    obtain ⟨z1, z2, z3⟩ := k3.lt3
    obtain ⟨p1, p2⟩ := k3.cells
    go_wp2_with fail
    go_quiet (fail)
    have k4 := k3.drewN nq
    go_wp2_with fail
    exact bodyPost_ret (v := .tuple #[(Vl.zero).v, .string sType]) (by simp [results, Tryd.results12, go_sem, sNone, sType, Vl.zero, b2i, *]) rfl ⟨rfl, (((Only.of_ext (h3.trans k4)).setCell (.inr (by simp <;> omega)) _).setCell (.inr (by simp <;> omega)) _).setCell (.inr (by simp <;> omega)) _, (((h.ext (h3.trans k4)).far (by simp <;> omega) _).far (by simp <;> omega) _).far (by simp <;> omega) _⟩
end Go.Proofs.YtidjibghicejaaaDoor
