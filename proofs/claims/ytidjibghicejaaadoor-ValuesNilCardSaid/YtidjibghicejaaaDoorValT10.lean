/- What an operator makes of two values, by the reference: not the same. -/
import Derived.Test.YtidjibghicejaaaDoorValS
namespace Go.Proofs.YtidjibghicejaaaDoor
open Go.RowKit
set_option linter.unusedVariables false
set_option linter.unusedSimpArgs false


set_option maxHeartbeats 4000000 in
set_option maxRecDepth 100000 in
theorem rop_10 (g : Nat) (tv : Value) (c sp : Int) (a b : Vl) (w : World) (h : RB w g tv c sp) (hs : 0 ≤ sp) (hc : sp ≤ c) (hc' : c ≤ 4611686018427387903) (ht : Pow w) (fa : Fits a) (fb : Fits b) :
    Calls Tryd.prog 12 #[.pointer (some ⟨g, 0, none⟩), .string ⟨#[126, 61]⟩, a.v, b.v] w fun e w' => e = .returned (.tuple #[(opA 10 c sp a b).1.v, .string (opA 10 c sp a b).2.1]) ∧ Only g w w' ∧ RB w' g tv c (opA 10 c sp a b).2.2 := by
  have hk0 : ¬ w.heap.size = g := by have := h.lt; omega
  have hk1 : ¬ w.heap.size + 1 = g := by have := h.lt; omega
  have hk2 : ¬ w.heap.size + 2 = g := by have := h.lt; omega
  have h3 := (((Ext.refl w).alloc (.cells #[.int .i64 a.k, .int .i64 a.n, .string a.s] 24)).alloc (.cells #[.int .i64 b.k, .int .i64 b.n, .string b.s] 24)).alloc (.cells #[.int .i64 0, .int .i64 0, .string ⟨#[]⟩] 24)
  cases ca : a.ck
  · rw [opA_no1 ca]
    go_enter Tryd.func12, Tryd.ntmps12
    go_wp2_with fail
    refine (rck_any a false ca _).mono ?_
    rintro e w2 ⟨rfl, he⟩
    have k2 := he
    clear he
    obtain ⟨z1, z2, z3⟩ := k2.lt3
    obtain ⟨p1, p2⟩ := k2.cells
    go_wp2_with fail
    exact bodyPost_ret (v := .tuple #[(Vl.zero).v, .string sType]) (by simp [results, Tryd.results12, go_sem, sNone, sType, Vl.zero, b2i, *]) rfl ⟨rfl, (((Only.of_ext (h3.trans k2)).setCell (.inr (by simp <;> omega)) _).setCell (.inr (by simp <;> omega)) _).setCell (.inr (by simp <;> omega)) _, (((h.ext (h3.trans k2)).far (by simp <;> omega) _).far (by simp <;> omega) _).far (by simp <;> omega) _⟩
  cases cb : b.ck
  · rw [opA_no2 cb]
    go_enter Tryd.func12, Tryd.ntmps12
    go_wp2_with fail
    refine (rck_any a true ca _).mono ?_
    rintro e w2 ⟨rfl, he⟩
    have k2 := he
    clear he
    obtain ⟨z1, z2, z3⟩ := k2.lt3
    obtain ⟨p1, p2⟩ := k2.cells
    go_wp2_with fail
    refine (rck_any b false cb _).mono ?_
    rintro e w3 ⟨rfl, he⟩
    have k3 := k2.trans he
    clear z1 z2 z3 p1 p2 he
    obtain ⟨z1, z2, z3⟩ := k3.lt3
    obtain ⟨p1, p2⟩ := k3.cells
    go_wp2_with fail
    exact bodyPost_ret (v := .tuple #[(Vl.zero).v, .string sType]) (by simp [results, Tryd.results12, go_sem, sNone, sType, Vl.zero, b2i, *]) rfl ⟨rfl, (((Only.of_ext (h3.trans k3)).setCell (.inr (by simp <;> omega)) _).setCell (.inr (by simp <;> omega)) _).setCell (.inr (by simp <;> omega)) _, (((h.ext (h3.trans k3)).far (by simp <;> omega) _).far (by simp <;> omega) _).far (by simp <;> omega) _⟩
  rw [opA_yes ca cb]
  obtain ⟨xk, xn, xs⟩ := a
  obtain ⟨yk, yn, ys⟩ := b
  obtain ⟨a1, a2, a3⟩ := fa
  obtain ⟨b1, b2, b3⟩ := fb
  by_cases hx2 : xk = 2
  · subst hx2
    by_cases e1 : 2 = yk
    · subst e1
      by_cases e2 : xn = yn
      · subst e2
        cases e3 : (xs.toList == ys.toList)
        · have e3' : ¬ xs.toList = ys.toList := by simpa using e3
          rw [show opR 10 c sp ⟨2, xn, xs⟩ ⟨2, xn, ys⟩ = (⟨1, b2i true, sNone⟩, sNone, sp) from by simp [opR, saV, sameB, *]]
          go_enter Tryd.func12, Tryd.ntmps12
          go_wp2_with fail
          refine (rck_any ⟨2, xn, xs⟩ true ca _).mono ?_
          rintro e w2 ⟨rfl, he⟩
          have k2 := he
          clear he
          obtain ⟨z1, z2, z3⟩ := k2.lt3
          obtain ⟨p1, p2⟩ := k2.cells
          go_wp2_with fail
          refine (rck_any ⟨2, xn, ys⟩ true cb _).mono ?_
          rintro e w3 ⟨rfl, he⟩
          have k3 := k2.trans he
          clear z1 z2 z3 p1 p2 he
          obtain ⟨z1, z2, z3⟩ := k3.lt3
          obtain ⟨p1, p2⟩ := k3.cells
          go_wp2_with fail
          go_quiet (fail)
          obtain ⟨wA, hA⟩ : ∃ x, x = w3.drewN nq := ⟨_, rfl⟩
          have kA : Ext _ wA := hA ▸ k3.drewN nq
          rw [← hA]
          clear hA z1 z2 z3 p1 p2
          obtain ⟨z1, z2, z3⟩ := kA.lt3
          obtain ⟨p1, p2⟩ := kA.cells
          go_wp2_with fail
          refine (rbool_any true _).mono ?_
          rintro e w4 ⟨rfl, he⟩
          have k5 := kA.trans he
          clear z1 z2 z3 p1 p2 he
          obtain ⟨z1, z2, z3⟩ := k5.lt3
          obtain ⟨p1, p2⟩ := k5.cells
          go_wp2_with fail
          exact bodyPost_ret (v := .tuple #[(Vl.mk 1 (b2i true) sNone).v, .string sNone]) (by simp [results, Tryd.results12, go_sem, sNone, sType, Vl.zero, b2i, *]) rfl ⟨rfl, (((Only.of_ext (h3.trans k5)).setCell (.inr (by simp <;> omega)) _).setCell (.inr (by simp <;> omega)) _).setCell (.inr (by simp <;> omega)) _, (((h.ext (h3.trans k5)).far (by simp <;> omega) _).far (by simp <;> omega) _).far (by simp <;> omega) _⟩
        · have e3' : xs.toList = ys.toList := by simpa using e3
          rw [show opR 10 c sp ⟨2, xn, xs⟩ ⟨2, xn, ys⟩ = (⟨1, b2i false, sNone⟩, sNone, sp) from by simp [opR, saV, sameB, *]]
          go_enter Tryd.func12, Tryd.ntmps12
          go_wp2_with fail
          refine (rck_any ⟨2, xn, xs⟩ true ca _).mono ?_
          rintro e w2 ⟨rfl, he⟩
          have k2 := he
          clear he
          obtain ⟨z1, z2, z3⟩ := k2.lt3
          obtain ⟨p1, p2⟩ := k2.cells
          go_wp2_with fail
          refine (rck_any ⟨2, xn, ys⟩ true cb _).mono ?_
          rintro e w3 ⟨rfl, he⟩
          have k3 := k2.trans he
          clear z1 z2 z3 p1 p2 he
          obtain ⟨z1, z2, z3⟩ := k3.lt3
          obtain ⟨p1, p2⟩ := k3.cells
          go_wp2_with fail
          go_quiet (fail)
          obtain ⟨wA, hA⟩ : ∃ x, x = w3.drewN nq := ⟨_, rfl⟩
          have kA : Ext _ wA := hA ▸ k3.drewN nq
          rw [← hA]
          clear hA z1 z2 z3 p1 p2
          obtain ⟨z1, z2, z3⟩ := kA.lt3
          obtain ⟨p1, p2⟩ := kA.cells
          go_wp2_with fail
          refine (rbool_any false _).mono ?_
          rintro e w4 ⟨rfl, he⟩
          have k5 := kA.trans he
          clear z1 z2 z3 p1 p2 he
          obtain ⟨z1, z2, z3⟩ := k5.lt3
          obtain ⟨p1, p2⟩ := k5.cells
          go_wp2_with fail
          exact bodyPost_ret (v := .tuple #[(Vl.mk 1 (b2i false) sNone).v, .string sNone]) (by simp [results, Tryd.results12, go_sem, sNone, sType, Vl.zero, b2i, *]) rfl ⟨rfl, (((Only.of_ext (h3.trans k5)).setCell (.inr (by simp <;> omega)) _).setCell (.inr (by simp <;> omega)) _).setCell (.inr (by simp <;> omega)) _, (((h.ext (h3.trans k5)).far (by simp <;> omega) _).far (by simp <;> omega) _).far (by simp <;> omega) _⟩
      · have e2' : (xn == yn) = false := by simp [e2]
        rw [show opR 10 c sp ⟨2, xn, xs⟩ ⟨2, yn, ys⟩ = (⟨1, b2i true, sNone⟩, sNone, sp) from by simp [opR, saV, sameB, *]]
        go_enter Tryd.func12, Tryd.ntmps12
        go_wp2_with fail
        refine (rck_any ⟨2, xn, xs⟩ true ca _).mono ?_
        rintro e w2 ⟨rfl, he⟩
        have k2 := he
        clear he
        obtain ⟨z1, z2, z3⟩ := k2.lt3
        obtain ⟨p1, p2⟩ := k2.cells
        go_wp2_with fail
        refine (rck_any ⟨2, yn, ys⟩ true cb _).mono ?_
        rintro e w3 ⟨rfl, he⟩
        have k3 := k2.trans he
        clear z1 z2 z3 p1 p2 he
        obtain ⟨z1, z2, z3⟩ := k3.lt3
        obtain ⟨p1, p2⟩ := k3.cells
        go_wp2_with fail
        go_quiet (fail)
        obtain ⟨wA, hA⟩ : ∃ x, x = w3.drewN nq := ⟨_, rfl⟩
        have kA : Ext _ wA := hA ▸ k3.drewN nq
        rw [← hA]
        clear hA z1 z2 z3 p1 p2
        obtain ⟨z1, z2, z3⟩ := kA.lt3
        obtain ⟨p1, p2⟩ := kA.cells
        go_wp2_with fail
        refine (rbool_any true _).mono ?_
        rintro e w4 ⟨rfl, he⟩
        have k5 := kA.trans he
        clear z1 z2 z3 p1 p2 he
        obtain ⟨z1, z2, z3⟩ := k5.lt3
        obtain ⟨p1, p2⟩ := k5.cells
        go_wp2_with fail
        exact bodyPost_ret (v := .tuple #[(Vl.mk 1 (b2i true) sNone).v, .string sNone]) (by simp [results, Tryd.results12, go_sem, sNone, sType, Vl.zero, b2i, *]) rfl ⟨rfl, (((Only.of_ext (h3.trans k5)).setCell (.inr (by simp <;> omega)) _).setCell (.inr (by simp <;> omega)) _).setCell (.inr (by simp <;> omega)) _, (((h.ext (h3.trans k5)).far (by simp <;> omega) _).far (by simp <;> omega) _).far (by simp <;> omega) _⟩
    · have e1' : ((2 : Int) == yk) = false := by simp [e1]
      rw [show opR 10 c sp ⟨2, xn, xs⟩ ⟨yk, yn, ys⟩ = (⟨1, b2i true, sNone⟩, sNone, sp) from by simp [opR, saV, sameB, *]]
      go_enter Tryd.func12, Tryd.ntmps12
      go_wp2_with fail
      refine (rck_any ⟨2, xn, xs⟩ true ca _).mono ?_
      rintro e w2 ⟨rfl, he⟩
      have k2 := he
      clear he
      obtain ⟨z1, z2, z3⟩ := k2.lt3
      obtain ⟨p1, p2⟩ := k2.cells
      go_wp2_with fail
      refine (rck_any ⟨yk, yn, ys⟩ true cb _).mono ?_
      rintro e w3 ⟨rfl, he⟩
      have k3 := k2.trans he
      clear z1 z2 z3 p1 p2 he
      obtain ⟨z1, z2, z3⟩ := k3.lt3
      obtain ⟨p1, p2⟩ := k3.cells
      go_wp2_with fail
      go_quiet (fail)
      obtain ⟨wA, hA⟩ : ∃ x, x = w3.drewN nq := ⟨_, rfl⟩
      have kA : Ext _ wA := hA ▸ k3.drewN nq
      rw [← hA]
      clear hA z1 z2 z3 p1 p2
      obtain ⟨z1, z2, z3⟩ := kA.lt3
      obtain ⟨p1, p2⟩ := kA.cells
      go_wp2_with fail
      refine (rbool_any true _).mono ?_
      rintro e w4 ⟨rfl, he⟩
      have k5 := kA.trans he
      clear z1 z2 z3 p1 p2 he
      obtain ⟨z1, z2, z3⟩ := k5.lt3
      obtain ⟨p1, p2⟩ := k5.cells
      go_wp2_with fail
      exact bodyPost_ret (v := .tuple #[(Vl.mk 1 (b2i true) sNone).v, .string sNone]) (by simp [results, Tryd.results12, go_sem, sNone, sType, Vl.zero, b2i, *]) rfl ⟨rfl, (((Only.of_ext (h3.trans k5)).setCell (.inr (by simp <;> omega)) _).setCell (.inr (by simp <;> omega)) _).setCell (.inr (by simp <;> omega)) _, (((h.ext (h3.trans k5)).far (by simp <;> omega) _).far (by simp <;> omega) _).far (by simp <;> omega) _⟩
  have hx2' : (xk == 2) = false := by simp [hx2]
  by_cases hx3 : xk = 3
  · subst hx3
    by_cases e1 : 3 = yk
    · subst e1
      by_cases e2 : xn = yn
      · subst e2
        cases e3 : (xs.toList == ys.toList)
        · have e3' : ¬ xs.toList = ys.toList := by simpa using e3
          rw [show opR 10 c sp ⟨3, xn, xs⟩ ⟨3, xn, ys⟩ = (⟨1, b2i true, sNone⟩, sNone, sp) from by simp [opR, saV, sameB, *]]
          go_enter Tryd.func12, Tryd.ntmps12
          go_wp2_with fail
          refine (rck_any ⟨3, xn, xs⟩ true ca _).mono ?_
          rintro e w2 ⟨rfl, he⟩
          have k2 := he
          clear he
          obtain ⟨z1, z2, z3⟩ := k2.lt3
          obtain ⟨p1, p2⟩ := k2.cells
          go_wp2_with fail
          refine (rck_any ⟨3, xn, ys⟩ true cb _).mono ?_
          rintro e w3 ⟨rfl, he⟩
          have k3 := k2.trans he
          clear z1 z2 z3 p1 p2 he
          obtain ⟨z1, z2, z3⟩ := k3.lt3
          obtain ⟨p1, p2⟩ := k3.cells
          go_wp2_with fail
          go_quiet (fail)
          obtain ⟨wA, hA⟩ : ∃ x, x = w3.drewN nq := ⟨_, rfl⟩
          have kA : Ext _ wA := hA ▸ k3.drewN nq
          rw [← hA]
          clear hA z1 z2 z3 p1 p2
          obtain ⟨z1, z2, z3⟩ := kA.lt3
          obtain ⟨p1, p2⟩ := kA.cells
          go_wp2_with fail
          refine (rbool_any true _).mono ?_
          rintro e w4 ⟨rfl, he⟩
          have k5 := kA.trans he
          clear z1 z2 z3 p1 p2 he
          obtain ⟨z1, z2, z3⟩ := k5.lt3
          obtain ⟨p1, p2⟩ := k5.cells
          go_wp2_with fail
          exact bodyPost_ret (v := .tuple #[(Vl.mk 1 (b2i true) sNone).v, .string sNone]) (by simp [results, Tryd.results12, go_sem, sNone, sType, Vl.zero, b2i, *]) rfl ⟨rfl, (((Only.of_ext (h3.trans k5)).setCell (.inr (by simp <;> omega)) _).setCell (.inr (by simp <;> omega)) _).setCell (.inr (by simp <;> omega)) _, (((h.ext (h3.trans k5)).far (by simp <;> omega) _).far (by simp <;> omega) _).far (by simp <;> omega) _⟩
        · have e3' : xs.toList = ys.toList := by simpa using e3
          rw [show opR 10 c sp ⟨3, xn, xs⟩ ⟨3, xn, ys⟩ = (⟨1, b2i false, sNone⟩, sNone, sp) from by simp [opR, saV, sameB, *]]
          go_enter Tryd.func12, Tryd.ntmps12
          go_wp2_with fail
          refine (rck_any ⟨3, xn, xs⟩ true ca _).mono ?_
          rintro e w2 ⟨rfl, he⟩
          have k2 := he
          clear he
          obtain ⟨z1, z2, z3⟩ := k2.lt3
          obtain ⟨p1, p2⟩ := k2.cells
          go_wp2_with fail
          refine (rck_any ⟨3, xn, ys⟩ true cb _).mono ?_
          rintro e w3 ⟨rfl, he⟩
          have k3 := k2.trans he
          clear z1 z2 z3 p1 p2 he
          obtain ⟨z1, z2, z3⟩ := k3.lt3
          obtain ⟨p1, p2⟩ := k3.cells
          go_wp2_with fail
          go_quiet (fail)
          obtain ⟨wA, hA⟩ : ∃ x, x = w3.drewN nq := ⟨_, rfl⟩
          have kA : Ext _ wA := hA ▸ k3.drewN nq
          rw [← hA]
          clear hA z1 z2 z3 p1 p2
          obtain ⟨z1, z2, z3⟩ := kA.lt3
          obtain ⟨p1, p2⟩ := kA.cells
          go_wp2_with fail
          refine (rbool_any false _).mono ?_
          rintro e w4 ⟨rfl, he⟩
          have k5 := kA.trans he
          clear z1 z2 z3 p1 p2 he
          obtain ⟨z1, z2, z3⟩ := k5.lt3
          obtain ⟨p1, p2⟩ := k5.cells
          go_wp2_with fail
          exact bodyPost_ret (v := .tuple #[(Vl.mk 1 (b2i false) sNone).v, .string sNone]) (by simp [results, Tryd.results12, go_sem, sNone, sType, Vl.zero, b2i, *]) rfl ⟨rfl, (((Only.of_ext (h3.trans k5)).setCell (.inr (by simp <;> omega)) _).setCell (.inr (by simp <;> omega)) _).setCell (.inr (by simp <;> omega)) _, (((h.ext (h3.trans k5)).far (by simp <;> omega) _).far (by simp <;> omega) _).far (by simp <;> omega) _⟩
      · have e2' : (xn == yn) = false := by simp [e2]
        rw [show opR 10 c sp ⟨3, xn, xs⟩ ⟨3, yn, ys⟩ = (⟨1, b2i true, sNone⟩, sNone, sp) from by simp [opR, saV, sameB, *]]
        go_enter Tryd.func12, Tryd.ntmps12
        go_wp2_with fail
        refine (rck_any ⟨3, xn, xs⟩ true ca _).mono ?_
        rintro e w2 ⟨rfl, he⟩
        have k2 := he
        clear he
        obtain ⟨z1, z2, z3⟩ := k2.lt3
        obtain ⟨p1, p2⟩ := k2.cells
        go_wp2_with fail
        refine (rck_any ⟨3, yn, ys⟩ true cb _).mono ?_
        rintro e w3 ⟨rfl, he⟩
        have k3 := k2.trans he
        clear z1 z2 z3 p1 p2 he
        obtain ⟨z1, z2, z3⟩ := k3.lt3
        obtain ⟨p1, p2⟩ := k3.cells
        go_wp2_with fail
        go_quiet (fail)
        obtain ⟨wA, hA⟩ : ∃ x, x = w3.drewN nq := ⟨_, rfl⟩
        have kA : Ext _ wA := hA ▸ k3.drewN nq
        rw [← hA]
        clear hA z1 z2 z3 p1 p2
        obtain ⟨z1, z2, z3⟩ := kA.lt3
        obtain ⟨p1, p2⟩ := kA.cells
        go_wp2_with fail
        refine (rbool_any true _).mono ?_
        rintro e w4 ⟨rfl, he⟩
        have k5 := kA.trans he
        clear z1 z2 z3 p1 p2 he
        obtain ⟨z1, z2, z3⟩ := k5.lt3
        obtain ⟨p1, p2⟩ := k5.cells
        go_wp2_with fail
        exact bodyPost_ret (v := .tuple #[(Vl.mk 1 (b2i true) sNone).v, .string sNone]) (by simp [results, Tryd.results12, go_sem, sNone, sType, Vl.zero, b2i, *]) rfl ⟨rfl, (((Only.of_ext (h3.trans k5)).setCell (.inr (by simp <;> omega)) _).setCell (.inr (by simp <;> omega)) _).setCell (.inr (by simp <;> omega)) _, (((h.ext (h3.trans k5)).far (by simp <;> omega) _).far (by simp <;> omega) _).far (by simp <;> omega) _⟩
    · have e1' : ((3 : Int) == yk) = false := by simp [e1]
      rw [show opR 10 c sp ⟨3, xn, xs⟩ ⟨yk, yn, ys⟩ = (⟨1, b2i true, sNone⟩, sNone, sp) from by simp [opR, saV, sameB, *]]
      go_enter Tryd.func12, Tryd.ntmps12
      go_wp2_with fail
      refine (rck_any ⟨3, xn, xs⟩ true ca _).mono ?_
      rintro e w2 ⟨rfl, he⟩
      have k2 := he
      clear he
      obtain ⟨z1, z2, z3⟩ := k2.lt3
      obtain ⟨p1, p2⟩ := k2.cells
      go_wp2_with fail
      refine (rck_any ⟨yk, yn, ys⟩ true cb _).mono ?_
      rintro e w3 ⟨rfl, he⟩
      have k3 := k2.trans he
      clear z1 z2 z3 p1 p2 he
      obtain ⟨z1, z2, z3⟩ := k3.lt3
      obtain ⟨p1, p2⟩ := k3.cells
      go_wp2_with fail
      go_quiet (fail)
      obtain ⟨wA, hA⟩ : ∃ x, x = w3.drewN nq := ⟨_, rfl⟩
      have kA : Ext _ wA := hA ▸ k3.drewN nq
      rw [← hA]
      clear hA z1 z2 z3 p1 p2
      obtain ⟨z1, z2, z3⟩ := kA.lt3
      obtain ⟨p1, p2⟩ := kA.cells
      go_wp2_with fail
      refine (rbool_any true _).mono ?_
      rintro e w4 ⟨rfl, he⟩
      have k5 := kA.trans he
      clear z1 z2 z3 p1 p2 he
      obtain ⟨z1, z2, z3⟩ := k5.lt3
      obtain ⟨p1, p2⟩ := k5.cells
      go_wp2_with fail
      exact bodyPost_ret (v := .tuple #[(Vl.mk 1 (b2i true) sNone).v, .string sNone]) (by simp [results, Tryd.results12, go_sem, sNone, sType, Vl.zero, b2i, *]) rfl ⟨rfl, (((Only.of_ext (h3.trans k5)).setCell (.inr (by simp <;> omega)) _).setCell (.inr (by simp <;> omega)) _).setCell (.inr (by simp <;> omega)) _, (((h.ext (h3.trans k5)).far (by simp <;> omega) _).far (by simp <;> omega) _).far (by simp <;> omega) _⟩
  · have hx3' : (xk == 3) = false := by simp [hx3]
    by_cases e1 : xk = yk
    · subst e1
      by_cases e2 : xn = yn
      · subst e2
        cases e3 : (xs.toList == ys.toList)
        · have e3' : ¬ xs.toList = ys.toList := by simpa using e3
          rw [show opR 10 c sp ⟨xk, xn, xs⟩ ⟨xk, xn, ys⟩ = (⟨1, b2i true, sNone⟩, sNone, sp) from by simp [opR, saV, sameB, *]]
          go_enter Tryd.func12, Tryd.ntmps12
          go_wp2_with fail
          refine (rck_any ⟨xk, xn, xs⟩ true ca _).mono ?_
          rintro e w2 ⟨rfl, he⟩
          have k2 := he
          clear he
          obtain ⟨z1, z2, z3⟩ := k2.lt3
          obtain ⟨p1, p2⟩ := k2.cells
          go_wp2_with fail
          refine (rck_any ⟨xk, xn, ys⟩ true cb _).mono ?_
          rintro e w3 ⟨rfl, he⟩
          have k3 := k2.trans he
          clear z1 z2 z3 p1 p2 he
          obtain ⟨z1, z2, z3⟩ := k3.lt3
          obtain ⟨p1, p2⟩ := k3.cells
          go_wp2_with fail
          go_quiet (fail)
          obtain ⟨wA, hA⟩ : ∃ x, x = w3.drewN nq := ⟨_, rfl⟩
          have kA : Ext _ wA := hA ▸ k3.drewN nq
          rw [← hA]
          clear hA z1 z2 z3 p1 p2
          obtain ⟨z1, z2, z3⟩ := kA.lt3
          obtain ⟨p1, p2⟩ := kA.cells
          go_wp2_with fail
          refine (rbool_any true _).mono ?_
          rintro e w4 ⟨rfl, he⟩
          have k5 := kA.trans he
          clear z1 z2 z3 p1 p2 he
          obtain ⟨z1, z2, z3⟩ := k5.lt3
          obtain ⟨p1, p2⟩ := k5.cells
          go_wp2_with fail
          exact bodyPost_ret (v := .tuple #[(Vl.mk 1 (b2i true) sNone).v, .string sNone]) (by simp [results, Tryd.results12, go_sem, sNone, sType, Vl.zero, b2i, *]) rfl ⟨rfl, (((Only.of_ext (h3.trans k5)).setCell (.inr (by simp <;> omega)) _).setCell (.inr (by simp <;> omega)) _).setCell (.inr (by simp <;> omega)) _, (((h.ext (h3.trans k5)).far (by simp <;> omega) _).far (by simp <;> omega) _).far (by simp <;> omega) _⟩
        · have e3' : xs.toList = ys.toList := by simpa using e3
          rw [show opR 10 c sp ⟨xk, xn, xs⟩ ⟨xk, xn, ys⟩ = (⟨1, b2i false, sNone⟩, sNone, sp) from by simp [opR, saV, sameB, *]]
          go_enter Tryd.func12, Tryd.ntmps12
          go_wp2_with fail
          refine (rck_any ⟨xk, xn, xs⟩ true ca _).mono ?_
          rintro e w2 ⟨rfl, he⟩
          have k2 := he
          clear he
          obtain ⟨z1, z2, z3⟩ := k2.lt3
          obtain ⟨p1, p2⟩ := k2.cells
          go_wp2_with fail
          refine (rck_any ⟨xk, xn, ys⟩ true cb _).mono ?_
          rintro e w3 ⟨rfl, he⟩
          have k3 := k2.trans he
          clear z1 z2 z3 p1 p2 he
          obtain ⟨z1, z2, z3⟩ := k3.lt3
          obtain ⟨p1, p2⟩ := k3.cells
          go_wp2_with fail
          go_quiet (fail)
          obtain ⟨wA, hA⟩ : ∃ x, x = w3.drewN nq := ⟨_, rfl⟩
          have kA : Ext _ wA := hA ▸ k3.drewN nq
          rw [← hA]
          clear hA z1 z2 z3 p1 p2
          obtain ⟨z1, z2, z3⟩ := kA.lt3
          obtain ⟨p1, p2⟩ := kA.cells
          go_wp2_with fail
          refine (rbool_any false _).mono ?_
          rintro e w4 ⟨rfl, he⟩
          have k5 := kA.trans he
          clear z1 z2 z3 p1 p2 he
          obtain ⟨z1, z2, z3⟩ := k5.lt3
          obtain ⟨p1, p2⟩ := k5.cells
          go_wp2_with fail
          exact bodyPost_ret (v := .tuple #[(Vl.mk 1 (b2i false) sNone).v, .string sNone]) (by simp [results, Tryd.results12, go_sem, sNone, sType, Vl.zero, b2i, *]) rfl ⟨rfl, (((Only.of_ext (h3.trans k5)).setCell (.inr (by simp <;> omega)) _).setCell (.inr (by simp <;> omega)) _).setCell (.inr (by simp <;> omega)) _, (((h.ext (h3.trans k5)).far (by simp <;> omega) _).far (by simp <;> omega) _).far (by simp <;> omega) _⟩
      · have e2' : (xn == yn) = false := by simp [e2]
        rw [show opR 10 c sp ⟨xk, xn, xs⟩ ⟨xk, yn, ys⟩ = (⟨1, b2i true, sNone⟩, sNone, sp) from by simp [opR, saV, sameB, *]]
        go_enter Tryd.func12, Tryd.ntmps12
        go_wp2_with fail
        refine (rck_any ⟨xk, xn, xs⟩ true ca _).mono ?_
        rintro e w2 ⟨rfl, he⟩
        have k2 := he
        clear he
        obtain ⟨z1, z2, z3⟩ := k2.lt3
        obtain ⟨p1, p2⟩ := k2.cells
        go_wp2_with fail
        refine (rck_any ⟨xk, yn, ys⟩ true cb _).mono ?_
        rintro e w3 ⟨rfl, he⟩
        have k3 := k2.trans he
        clear z1 z2 z3 p1 p2 he
        obtain ⟨z1, z2, z3⟩ := k3.lt3
        obtain ⟨p1, p2⟩ := k3.cells
        go_wp2_with fail
        go_quiet (fail)
        obtain ⟨wA, hA⟩ : ∃ x, x = w3.drewN nq := ⟨_, rfl⟩
        have kA : Ext _ wA := hA ▸ k3.drewN nq
        rw [← hA]
        clear hA z1 z2 z3 p1 p2
        obtain ⟨z1, z2, z3⟩ := kA.lt3
        obtain ⟨p1, p2⟩ := kA.cells
        go_wp2_with fail
        refine (rbool_any true _).mono ?_
        rintro e w4 ⟨rfl, he⟩
        have k5 := kA.trans he
        clear z1 z2 z3 p1 p2 he
        obtain ⟨z1, z2, z3⟩ := k5.lt3
        obtain ⟨p1, p2⟩ := k5.cells
        go_wp2_with fail
        exact bodyPost_ret (v := .tuple #[(Vl.mk 1 (b2i true) sNone).v, .string sNone]) (by simp [results, Tryd.results12, go_sem, sNone, sType, Vl.zero, b2i, *]) rfl ⟨rfl, (((Only.of_ext (h3.trans k5)).setCell (.inr (by simp <;> omega)) _).setCell (.inr (by simp <;> omega)) _).setCell (.inr (by simp <;> omega)) _, (((h.ext (h3.trans k5)).far (by simp <;> omega) _).far (by simp <;> omega) _).far (by simp <;> omega) _⟩
    · have e1' : (xk == yk) = false := by simp [e1]
      rw [show opR 10 c sp ⟨xk, xn, xs⟩ ⟨yk, yn, ys⟩ = (⟨1, b2i true, sNone⟩, sNone, sp) from by simp [opR, saV, sameB, *]]
      go_enter Tryd.func12, Tryd.ntmps12
      go_wp2_with fail
      refine (rck_any ⟨xk, xn, xs⟩ true ca _).mono ?_
      rintro e w2 ⟨rfl, he⟩
      have k2 := he
      clear he
      obtain ⟨z1, z2, z3⟩ := k2.lt3
      obtain ⟨p1, p2⟩ := k2.cells
      go_wp2_with fail
      refine (rck_any ⟨yk, yn, ys⟩ true cb _).mono ?_
      rintro e w3 ⟨rfl, he⟩
      have k3 := k2.trans he
      clear z1 z2 z3 p1 p2 he
      obtain ⟨z1, z2, z3⟩ := k3.lt3
      obtain ⟨p1, p2⟩ := k3.cells
      go_wp2_with fail
      go_quiet (fail)
      obtain ⟨wA, hA⟩ : ∃ x, x = w3.drewN nq := ⟨_, rfl⟩
      have kA : Ext _ wA := hA ▸ k3.drewN nq
      rw [← hA]
      clear hA z1 z2 z3 p1 p2
      obtain ⟨z1, z2, z3⟩ := kA.lt3
      obtain ⟨p1, p2⟩ := kA.cells
      go_wp2_with fail
      refine (rbool_any true _).mono ?_
      rintro e w4 ⟨rfl, he⟩
      have k5 := kA.trans he
      clear z1 z2 z3 p1 p2 he
      obtain ⟨z1, z2, z3⟩ := k5.lt3
      obtain ⟨p1, p2⟩ := k5.cells
      go_wp2_with fail
      exact bodyPost_ret (v := .tuple #[(Vl.mk 1 (b2i true) sNone).v, .string sNone]) (by simp [results, Tryd.results12, go_sem, sNone, sType, Vl.zero, b2i, *]) rfl ⟨rfl, (((Only.of_ext (h3.trans k5)).setCell (.inr (by simp <;> omega)) _).setCell (.inr (by simp <;> omega)) _).setCell (.inr (by simp <;> omega)) _, (((h.ext (h3.trans k5)).far (by simp <;> omega) _).far (by simp <;> omega) _).far (by simp <;> omega) _⟩
end Go.Proofs.YtidjibghicejaaaDoor
