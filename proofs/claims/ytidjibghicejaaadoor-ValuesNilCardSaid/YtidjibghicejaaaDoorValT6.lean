/- What an operator makes of two values, by the reference: some operators more. -/
import Derived.Test.YtidjibghicejaaaDoorValS
namespace Go.Proofs.YtidjibghicejaaaDoor
open Go.RowKit
set_option linter.unusedVariables false
set_option linter.unusedSimpArgs false

theorem rless_v6 (s t : ByteArray) (v : Bool) (h : lessS s t = v) (w : World) (hs : s.size ≤ 9223372036854775807) (ht : t.size ≤ 9223372036854775807) :
    Calls Tryd.prog 31 #[.string s, .string t] w fun e w' => e = .returned (.bool v) ∧ ∃ n, w' = w.drewN n := by
  subst h
  exact rless_any s t w hs ht

set_option maxHeartbeats 4000000 in
set_option maxRecDepth 100000 in
theorem rop_6 (g : Nat) (tv : Value) (c sp : Int) (a b : Vl) (w : World) (h : RB w g tv c sp) (hs : 0 ≤ sp) (hc : sp ≤ c) (hc' : c ≤ 4611686018427387903) (ht : Pow w) (fa : Fits a) (fb : Fits b) :
    Calls Tryd.prog 12 #[.pointer (some ⟨g, 0, none⟩), .string ⟨#[60, 61]⟩, a.v, b.v] w fun e w' => e = .returned (.tuple #[(opA 6 c sp a b).1.v, .string (opA 6 c sp a b).2.1]) ∧ Only g w w' ∧ RB w' g tv c (opA 6 c sp a b).2.2 := by
  have hk0 : ¬ w.heap.size = g := by have := h.lt; omega
  have hk1 : ¬ w.heap.size + 1 = g := by have := h.lt; omega
  have hk2 : ¬ w.heap.size + 2 = g := by have := h.lt; omega
  have h3 := (((Ext.refl w).alloc (.cells #[.int .i64 a.k, .int .i64 a.n, .string a.s] 24)).alloc (.cells #[.int .i64 b.k, .int .i64 b.n, .string b.s] 24)).alloc (.cells #[.int .i64 0, .int .i64 0, .string ⟨#[]⟩] 24)
  cases ca : a.ck
  · rw [opA_no1 ca]
    go_enter Tryd.func12, Tryd.ntmps12
    go_wp2_with fail
    refine (rck_any a false ca _).mono ?_
    rintro e w2 ⟨rfl, he⟩
    have k2 := he
    clear he
    obtain ⟨z1, z2, z3⟩ := k2.lt3
    obtain ⟨p1, p2⟩ := k2.cells
    go_wp2_with fail
    exact bodyPost_ret (v := .tuple #[(Vl.zero).v, .string sType]) (by simp [results, Tryd.results12, go_sem, sNone, sType, Vl.zero, b2i, *]) rfl ⟨rfl, (((Only.of_ext (h3.trans k2)).setCell (.inr (by simp <;> omega)) _).setCell (.inr (by simp <;> omega)) _).setCell (.inr (by simp <;> omega)) _, (((h.ext (h3.trans k2)).far (by simp <;> omega) _).far (by simp <;> omega) _).far (by simp <;> omega) _⟩
  cases cb : b.ck
  · rw [opA_no2 cb]
    go_enter Tryd.func12, Tryd.ntmps12
    go_wp2_with fail
    refine (rck_any a true ca _).mono ?_
    rintro e w2 ⟨rfl, he⟩
    have k2 := he
    clear he
    obtain ⟨z1, z2, z3⟩ := k2.lt3
    obtain ⟨p1, p2⟩ := k2.cells
    go_wp2_with fail
    refine (rck_any b false cb _).mono ?_
    rintro e w3 ⟨rfl, he⟩
    have k3 := k2.trans he
    clear z1 z2 z3 p1 p2 he
    obtain ⟨z1, z2, z3⟩ := k3.lt3
    obtain ⟨p1, p2⟩ := k3.cells
    go_wp2_with fail
    exact bodyPost_ret (v := .tuple #[(Vl.zero).v, .string sType]) (by simp [results, Tryd.results12, go_sem, sNone, sType, Vl.zero, b2i, *]) rfl ⟨rfl, (((Only.of_ext (h3.trans k3)).setCell (.inr (by simp <;> omega)) _).setCell (.inr (by simp <;> omega)) _).setCell (.inr (by simp <;> omega)) _, (((h.ext (h3.trans k3)).far (by simp <;> omega) _).far (by simp <;> omega) _).far (by simp <;> omega) _⟩
  rw [opA_yes ca cb]
  obtain ⟨xk, xn, xs⟩ := a
  obtain ⟨yk, yn, ys⟩ := b
  obtain ⟨a1, a2, a3⟩ := fa
  obtain ⟨b1, b2, b3⟩ := fb
  by_cases hx2 : xk = 2
  · subst hx2
    by_cases hy : yk = 2
    · subst hy
      cases hl : decide (xn < yn) <;> cases hq : (xn == yn)
      · rw [show opR 6 c sp ⟨2, xn, xs⟩ ⟨2, yn, ys⟩ = (⟨1, b2i false, sNone⟩, sNone, sp) from by (have := ordI_all xn yn; simp only [opR, orV, orW, this, hl, hq]; rfl)]
        go_enter Tryd.func12, Tryd.ntmps12
        go_wp2_with fail
        refine (rck_any ⟨2, xn, xs⟩ true ca _).mono ?_
        rintro e w2 ⟨rfl, he⟩
        have k2 := he
        clear he
        obtain ⟨z1, z2, z3⟩ := k2.lt3
        obtain ⟨p1, p2⟩ := k2.cells
        go_wp2_with fail
        refine (rck_any ⟨2, yn, ys⟩ true cb _).mono ?_
        rintro e w3 ⟨rfl, he⟩
        have k3 := k2.trans he
        clear z1 z2 z3 p1 p2 he
        obtain ⟨z1, z2, z3⟩ := k3.lt3
        obtain ⟨p1, p2⟩ := k3.cells
        go_wp2_with fail
        go_quiet (fail)
        obtain ⟨wA, hA⟩ : ∃ x, x = w3.drewN nq := ⟨_, rfl⟩
        have kA : Ext _ wA := hA ▸ k3.drewN nq
        rw [← hA]
        clear hA z1 z2 z3 p1 p2
        obtain ⟨z1, z2, z3⟩ := kA.lt3
        obtain ⟨p1, p2⟩ := kA.cells
        go_wp2_with fail
        go_quiet (fail)
        obtain ⟨wB, hA⟩ : ∃ x, x = wA.drewN nq := ⟨_, rfl⟩
        have kB : Ext _ wB := hA ▸ kA.drewN nq
        rw [← hA]
        clear hA z1 z2 z3 p1 p2
        obtain ⟨z1, z2, z3⟩ := kB.lt3
        obtain ⟨p1, p2⟩ := kB.cells
        go_wp2_with fail
        refine (rbool_any false _).mono ?_
        rintro e w4 ⟨rfl, he⟩
        have k6 := kB.trans he
        clear z1 z2 z3 p1 p2 he
        obtain ⟨z1, z2, z3⟩ := k6.lt3
        obtain ⟨p1, p2⟩ := k6.cells
        go_wp2_with fail
        exact bodyPost_ret (v := .tuple #[(Vl.mk 1 (b2i false) sNone).v, .string sNone]) (by simp [results, Tryd.results12, go_sem, sNone, sType, Vl.zero, b2i, *]) rfl ⟨rfl, (((Only.of_ext (h3.trans k6)).setCell (.inr (by simp <;> omega)) _).setCell (.inr (by simp <;> omega)) _).setCell (.inr (by simp <;> omega)) _, (((h.ext (h3.trans k6)).far (by simp <;> omega) _).far (by simp <;> omega) _).far (by simp <;> omega) _⟩
      · rw [show opR 6 c sp ⟨2, xn, xs⟩ ⟨2, yn, ys⟩ = (⟨1, b2i true, sNone⟩, sNone, sp) from by (have := ordI_all xn yn; simp only [opR, orV, orW, this, hl, hq]; rfl)]
        go_enter Tryd.func12, Tryd.ntmps12
        go_wp2_with fail
        refine (rck_any ⟨2, xn, xs⟩ true ca _).mono ?_
        rintro e w2 ⟨rfl, he⟩
        have k2 := he
        clear he
        obtain ⟨z1, z2, z3⟩ := k2.lt3
        obtain ⟨p1, p2⟩ := k2.cells
        go_wp2_with fail
        refine (rck_any ⟨2, yn, ys⟩ true cb _).mono ?_
        rintro e w3 ⟨rfl, he⟩
        have k3 := k2.trans he
        clear z1 z2 z3 p1 p2 he
        obtain ⟨z1, z2, z3⟩ := k3.lt3
        obtain ⟨p1, p2⟩ := k3.cells
        go_wp2_with fail
        go_quiet (fail)
        obtain ⟨wA, hA⟩ : ∃ x, x = w3.drewN nq := ⟨_, rfl⟩
        have kA : Ext _ wA := hA ▸ k3.drewN nq
        rw [← hA]
        clear hA z1 z2 z3 p1 p2
        obtain ⟨z1, z2, z3⟩ := kA.lt3
        obtain ⟨p1, p2⟩ := kA.cells
        go_wp2_with fail
        go_quiet (fail)
        obtain ⟨wB, hA⟩ : ∃ x, x = wA.drewN nq := ⟨_, rfl⟩
        have kB : Ext _ wB := hA ▸ kA.drewN nq
        rw [← hA]
        clear hA z1 z2 z3 p1 p2
        obtain ⟨z1, z2, z3⟩ := kB.lt3
        obtain ⟨p1, p2⟩ := kB.cells
        go_wp2_with fail
        refine (rbool_any true _).mono ?_
        rintro e w4 ⟨rfl, he⟩
        have k6 := kB.trans he
        clear z1 z2 z3 p1 p2 he
        obtain ⟨z1, z2, z3⟩ := k6.lt3
        obtain ⟨p1, p2⟩ := k6.cells
        go_wp2_with fail
        exact bodyPost_ret (v := .tuple #[(Vl.mk 1 (b2i true) sNone).v, .string sNone]) (by simp [results, Tryd.results12, go_sem, sNone, sType, Vl.zero, b2i, *]) rfl ⟨rfl, (((Only.of_ext (h3.trans k6)).setCell (.inr (by simp <;> omega)) _).setCell (.inr (by simp <;> omega)) _).setCell (.inr (by simp <;> omega)) _, (((h.ext (h3.trans k6)).far (by simp <;> omega) _).far (by simp <;> omega) _).far (by simp <;> omega) _⟩
      · rw [show opR 6 c sp ⟨2, xn, xs⟩ ⟨2, yn, ys⟩ = (⟨1, b2i true, sNone⟩, sNone, sp) from by (have := ordI_all xn yn; simp only [opR, orV, orW, this, hl, hq]; rfl)]
        go_enter Tryd.func12, Tryd.ntmps12
        go_wp2_with fail
        refine (rck_any ⟨2, xn, xs⟩ true ca _).mono ?_
        rintro e w2 ⟨rfl, he⟩
        have k2 := he
        clear he
        obtain ⟨z1, z2, z3⟩ := k2.lt3
        obtain ⟨p1, p2⟩ := k2.cells
        go_wp2_with fail
        refine (rck_any ⟨2, yn, ys⟩ true cb _).mono ?_
        rintro e w3 ⟨rfl, he⟩
        have k3 := k2.trans he
        clear z1 z2 z3 p1 p2 he
        obtain ⟨z1, z2, z3⟩ := k3.lt3
        obtain ⟨p1, p2⟩ := k3.cells
        go_wp2_with fail
        go_quiet (fail)
        obtain ⟨wA, hA⟩ : ∃ x, x = w3.drewN nq := ⟨_, rfl⟩
        have kA : Ext _ wA := hA ▸ k3.drewN nq
        rw [← hA]
        clear hA z1 z2 z3 p1 p2
        obtain ⟨z1, z2, z3⟩ := kA.lt3
        obtain ⟨p1, p2⟩ := kA.cells
        go_wp2_with fail
        go_quiet (fail)
        obtain ⟨wB, hA⟩ : ∃ x, x = wA.drewN nq := ⟨_, rfl⟩
        have kB : Ext _ wB := hA ▸ kA.drewN nq
        rw [← hA]
        clear hA z1 z2 z3 p1 p2
        obtain ⟨z1, z2, z3⟩ := kB.lt3
        obtain ⟨p1, p2⟩ := kB.cells
        go_wp2_with fail
        refine (rbool_any true _).mono ?_
        rintro e w4 ⟨rfl, he⟩
        have k6 := kB.trans he
        clear z1 z2 z3 p1 p2 he
        obtain ⟨z1, z2, z3⟩ := k6.lt3
        obtain ⟨p1, p2⟩ := k6.cells
        go_wp2_with fail
        exact bodyPost_ret (v := .tuple #[(Vl.mk 1 (b2i true) sNone).v, .string sNone]) (by simp [results, Tryd.results12, go_sem, sNone, sType, Vl.zero, b2i, *]) rfl ⟨rfl, (((Only.of_ext (h3.trans k6)).setCell (.inr (by simp <;> omega)) _).setCell (.inr (by simp <;> omega)) _).setCell (.inr (by simp <;> omega)) _, (((h.ext (h3.trans k6)).far (by simp <;> omega) _).far (by simp <;> omega) _).far (by simp <;> omega) _⟩
      · rw [show opR 6 c sp ⟨2, xn, xs⟩ ⟨2, yn, ys⟩ = (⟨1, b2i true, sNone⟩, sNone, sp) from by (have := ordI_all xn yn; simp only [opR, orV, orW, this, hl, hq]; rfl)]
        go_enter Tryd.func12, Tryd.ntmps12
        go_wp2_with fail
        refine (rck_any ⟨2, xn, xs⟩ true ca _).mono ?_
        rintro e w2 ⟨rfl, he⟩
        have k2 := he
        clear he
        obtain ⟨z1, z2, z3⟩ := k2.lt3
        obtain ⟨p1, p2⟩ := k2.cells
        go_wp2_with fail
        refine (rck_any ⟨2, yn, ys⟩ true cb _).mono ?_
        rintro e w3 ⟨rfl, he⟩
        have k3 := k2.trans he
        clear z1 z2 z3 p1 p2 he
        obtain ⟨z1, z2, z3⟩ := k3.lt3
        obtain ⟨p1, p2⟩ := k3.cells
        go_wp2_with fail
        go_quiet (fail)
        obtain ⟨wA, hA⟩ : ∃ x, x = w3.drewN nq := ⟨_, rfl⟩
        have kA : Ext _ wA := hA ▸ k3.drewN nq
        rw [← hA]
        clear hA z1 z2 z3 p1 p2
        obtain ⟨z1, z2, z3⟩ := kA.lt3
        obtain ⟨p1, p2⟩ := kA.cells
        go_wp2_with fail
        go_quiet (fail)
        obtain ⟨wB, hA⟩ : ∃ x, x = wA.drewN nq := ⟨_, rfl⟩
        have kB : Ext _ wB := hA ▸ kA.drewN nq
        rw [← hA]
        clear hA z1 z2 z3 p1 p2
        obtain ⟨z1, z2, z3⟩ := kB.lt3
        obtain ⟨p1, p2⟩ := kB.cells
        go_wp2_with fail
        refine (rbool_any true _).mono ?_
        rintro e w4 ⟨rfl, he⟩
        have k6 := kB.trans he
        clear z1 z2 z3 p1 p2 he
        obtain ⟨z1, z2, z3⟩ := k6.lt3
        obtain ⟨p1, p2⟩ := k6.cells
        go_wp2_with fail
        exact bodyPost_ret (v := .tuple #[(Vl.mk 1 (b2i true) sNone).v, .string sNone]) (by simp [results, Tryd.results12, go_sem, sNone, sType, Vl.zero, b2i, *]) rfl ⟨rfl, (((Only.of_ext (h3.trans k6)).setCell (.inr (by simp <;> omega)) _).setCell (.inr (by simp <;> omega)) _).setCell (.inr (by simp <;> omega)) _, (((h.ext (h3.trans k6)).far (by simp <;> omega) _).far (by simp <;> omega) _).far (by simp <;> omega) _⟩
    · have hy' : (yk == 2) = false := by simp [hy]
      rw [show opR 6 c sp ⟨2, xn, xs⟩ ⟨yk, yn, ys⟩ = (.zero, sType, sp) from by simp [opR, orV, orW, hy]]
      go_enter Tryd.func12, Tryd.ntmps12
      go_wp2_with fail
      refine (rck_any ⟨2, xn, xs⟩ true ca _).mono ?_
      rintro e w2 ⟨rfl, he⟩
      have k2 := he
      clear he
      obtain ⟨z1, z2, z3⟩ := k2.lt3
      obtain ⟨p1, p2⟩ := k2.cells
      go_wp2_with fail
      refine (rck_any ⟨yk, yn, ys⟩ true cb _).mono ?_
      rintro e w3 ⟨rfl, he⟩
      have k3 := k2.trans he
      clear z1 z2 z3 p1 p2 he
      obtain ⟨z1, z2, z3⟩ := k3.lt3
      obtain ⟨p1, p2⟩ := k3.cells
      go_wp2_with fail
      go_quiet (fail)
      obtain ⟨wA, hA⟩ : ∃ x, x = w3.drewN nq := ⟨_, rfl⟩
      have kA : Ext _ wA := hA ▸ k3.drewN nq
      rw [← hA]
      clear hA z1 z2 z3 p1 p2
      obtain ⟨z1, z2, z3⟩ := kA.lt3
      obtain ⟨p1, p2⟩ := kA.cells
      go_wp2_with fail
      go_quiet (fail)
      obtain ⟨wB, hA⟩ : ∃ x, x = wA.drewN nq := ⟨_, rfl⟩
      have kB : Ext _ wB := hA ▸ kA.drewN nq
      rw [← hA]
      clear hA z1 z2 z3 p1 p2
      obtain ⟨z1, z2, z3⟩ := kB.lt3
      obtain ⟨p1, p2⟩ := kB.cells
      go_wp2_with fail
      exact bodyPost_ret (v := .tuple #[(Vl.zero).v, .string sType]) (by simp [results, Tryd.results12, go_sem, sNone, sType, Vl.zero, b2i, *]) rfl ⟨rfl, (((Only.of_ext (h3.trans kB)).setCell (.inr (by simp <;> omega)) _).setCell (.inr (by simp <;> omega)) _).setCell (.inr (by simp <;> omega)) _, (((h.ext (h3.trans kB)).far (by simp <;> omega) _).far (by simp <;> omega) _).far (by simp <;> omega) _⟩
  have hx2' : (xk == 2) = false := by simp [hx2]
  by_cases hx3 : xk = 3
  · subst hx3
    by_cases hy : yk = 3
    · subst hy
      cases hl : lessS xs ys <;> cases hq : (xs.toList == ys.toList)
      · rw [show opR 6 c sp ⟨3, xn, xs⟩ ⟨3, yn, ys⟩ = (⟨1, b2i false, sNone⟩, sNone, sp) from by (have := ordS_all xs ys; simp only [opR, orV, orW, this, hl, hq]; rfl)]
        go_enter Tryd.func12, Tryd.ntmps12
        go_wp2_with fail
        refine (rck_any ⟨3, xn, xs⟩ true ca _).mono ?_
        rintro e w2 ⟨rfl, he⟩
        have k2 := he
        clear he
        obtain ⟨z1, z2, z3⟩ := k2.lt3
        obtain ⟨p1, p2⟩ := k2.cells
        go_wp2_with fail
        refine (rck_any ⟨3, yn, ys⟩ true cb _).mono ?_
        rintro e w3 ⟨rfl, he⟩
        have k3 := k2.trans he
        clear z1 z2 z3 p1 p2 he
        obtain ⟨z1, z2, z3⟩ := k3.lt3
        obtain ⟨p1, p2⟩ := k3.cells
        go_wp2_with fail
        go_quiet (fail)
        obtain ⟨wA, hA⟩ : ∃ x, x = w3.drewN nq := ⟨_, rfl⟩
        have kA : Ext _ wA := hA ▸ k3.drewN nq
        rw [← hA]
        clear hA z1 z2 z3 p1 p2
        obtain ⟨z1, z2, z3⟩ := kA.lt3
        obtain ⟨p1, p2⟩ := kA.cells
        go_wp2_with fail
        go_quiet (fail)
        obtain ⟨wB, hA⟩ : ∃ x, x = wA.drewN nq := ⟨_, rfl⟩
        have kB : Ext _ wB := hA ▸ kA.drewN nq
        rw [← hA]
        clear hA z1 z2 z3 p1 p2
        obtain ⟨z1, z2, z3⟩ := kB.lt3
        obtain ⟨p1, p2⟩ := kB.cells
        go_wp2_with fail
        go_quiet ((go_at_call 31; exact Calls.quiet_of (rless_v6 xs ys _ hl _ (by omega) (by omega))))
        obtain ⟨wC, hA⟩ : ∃ x, x = wB.drewN nq := ⟨_, rfl⟩
        have kC : Ext _ wC := hA ▸ kB.drewN nq
        rw [← hA]
        clear hA z1 z2 z3 p1 p2
        obtain ⟨z1, z2, z3⟩ := kC.lt3
        obtain ⟨p1, p2⟩ := kC.cells
        go_wp2_with fail
        refine (rbool_any false _).mono ?_
        rintro e w4 ⟨rfl, he⟩
        have k7 := kC.trans he
        clear z1 z2 z3 p1 p2 he
        obtain ⟨z1, z2, z3⟩ := k7.lt3
        obtain ⟨p1, p2⟩ := k7.cells
        go_wp2_with fail
        exact bodyPost_ret (v := .tuple #[(Vl.mk 1 (b2i false) sNone).v, .string sNone]) (by simp [results, Tryd.results12, go_sem, sNone, sType, Vl.zero, b2i, *]) rfl ⟨rfl, (((Only.of_ext (h3.trans k7)).setCell (.inr (by simp <;> omega)) _).setCell (.inr (by simp <;> omega)) _).setCell (.inr (by simp <;> omega)) _, (((h.ext (h3.trans k7)).far (by simp <;> omega) _).far (by simp <;> omega) _).far (by simp <;> omega) _⟩
      · rw [show opR 6 c sp ⟨3, xn, xs⟩ ⟨3, yn, ys⟩ = (⟨1, b2i true, sNone⟩, sNone, sp) from by (have := ordS_all xs ys; simp only [opR, orV, orW, this, hl, hq]; rfl)]
        go_enter Tryd.func12, Tryd.ntmps12
        go_wp2_with fail
        refine (rck_any ⟨3, xn, xs⟩ true ca _).mono ?_
        rintro e w2 ⟨rfl, he⟩
        have k2 := he
        clear he
        obtain ⟨z1, z2, z3⟩ := k2.lt3
        obtain ⟨p1, p2⟩ := k2.cells
        go_wp2_with fail
        refine (rck_any ⟨3, yn, ys⟩ true cb _).mono ?_
        rintro e w3 ⟨rfl, he⟩
        have k3 := k2.trans he
        clear z1 z2 z3 p1 p2 he
        obtain ⟨z1, z2, z3⟩ := k3.lt3
        obtain ⟨p1, p2⟩ := k3.cells
        go_wp2_with fail
        go_quiet (fail)
        obtain ⟨wA, hA⟩ : ∃ x, x = w3.drewN nq := ⟨_, rfl⟩
        have kA : Ext _ wA := hA ▸ k3.drewN nq
        rw [← hA]
        clear hA z1 z2 z3 p1 p2
        obtain ⟨z1, z2, z3⟩ := kA.lt3
        obtain ⟨p1, p2⟩ := kA.cells
        go_wp2_with fail
        go_quiet (fail)
        obtain ⟨wB, hA⟩ : ∃ x, x = wA.drewN nq := ⟨_, rfl⟩
        have kB : Ext _ wB := hA ▸ kA.drewN nq
        rw [← hA]
        clear hA z1 z2 z3 p1 p2
        obtain ⟨z1, z2, z3⟩ := kB.lt3
        obtain ⟨p1, p2⟩ := kB.cells
        go_wp2_with fail
        go_quiet ((go_at_call 31; exact Calls.quiet_of (rless_v6 xs ys _ hl _ (by omega) (by omega))))
        obtain ⟨wC, hA⟩ : ∃ x, x = wB.drewN nq := ⟨_, rfl⟩
        have kC : Ext _ wC := hA ▸ kB.drewN nq
        rw [← hA]
        clear hA z1 z2 z3 p1 p2
        obtain ⟨z1, z2, z3⟩ := kC.lt3
        obtain ⟨p1, p2⟩ := kC.cells
        go_wp2_with fail
        refine (rbool_any true _).mono ?_
        rintro e w4 ⟨rfl, he⟩
        have k7 := kC.trans he
        clear z1 z2 z3 p1 p2 he
        obtain ⟨z1, z2, z3⟩ := k7.lt3
        obtain ⟨p1, p2⟩ := k7.cells
        go_wp2_with fail
        exact bodyPost_ret (v := .tuple #[(Vl.mk 1 (b2i true) sNone).v, .string sNone]) (by simp [results, Tryd.results12, go_sem, sNone, sType, Vl.zero, b2i, *]) rfl ⟨rfl, (((Only.of_ext (h3.trans k7)).setCell (.inr (by simp <;> omega)) _).setCell (.inr (by simp <;> omega)) _).setCell (.inr (by simp <;> omega)) _, (((h.ext (h3.trans k7)).far (by simp <;> omega) _).far (by simp <;> omega) _).far (by simp <;> omega) _⟩
      · rw [show opR 6 c sp ⟨3, xn, xs⟩ ⟨3, yn, ys⟩ = (⟨1, b2i true, sNone⟩, sNone, sp) from by (have := ordS_all xs ys; simp only [opR, orV, orW, this, hl, hq]; rfl)]
        go_enter Tryd.func12, Tryd.ntmps12
        go_wp2_with fail
        refine (rck_any ⟨3, xn, xs⟩ true ca _).mono ?_
        rintro e w2 ⟨rfl, he⟩
        have k2 := he
        clear he
        obtain ⟨z1, z2, z3⟩ := k2.lt3
        obtain ⟨p1, p2⟩ := k2.cells
        go_wp2_with fail
        refine (rck_any ⟨3, yn, ys⟩ true cb _).mono ?_
        rintro e w3 ⟨rfl, he⟩
        have k3 := k2.trans he
        clear z1 z2 z3 p1 p2 he
        obtain ⟨z1, z2, z3⟩ := k3.lt3
        obtain ⟨p1, p2⟩ := k3.cells
        go_wp2_with fail
        go_quiet (fail)
        obtain ⟨wA, hA⟩ : ∃ x, x = w3.drewN nq := ⟨_, rfl⟩
        have kA : Ext _ wA := hA ▸ k3.drewN nq
        rw [← hA]
        clear hA z1 z2 z3 p1 p2
        obtain ⟨z1, z2, z3⟩ := kA.lt3
        obtain ⟨p1, p2⟩ := kA.cells
        go_wp2_with fail
        go_quiet (fail)
        obtain ⟨wB, hA⟩ : ∃ x, x = wA.drewN nq := ⟨_, rfl⟩
        have kB : Ext _ wB := hA ▸ kA.drewN nq
        rw [← hA]
        clear hA z1 z2 z3 p1 p2
        obtain ⟨z1, z2, z3⟩ := kB.lt3
        obtain ⟨p1, p2⟩ := kB.cells
        go_wp2_with fail
        go_quiet ((go_at_call 31; exact Calls.quiet_of (rless_v6 xs ys _ hl _ (by omega) (by omega))))
        obtain ⟨wC, hA⟩ : ∃ x, x = wB.drewN nq := ⟨_, rfl⟩
        have kC : Ext _ wC := hA ▸ kB.drewN nq
        rw [← hA]
        clear hA z1 z2 z3 p1 p2
        obtain ⟨z1, z2, z3⟩ := kC.lt3
        obtain ⟨p1, p2⟩ := kC.cells
        go_wp2_with fail
        refine (rbool_any true _).mono ?_
        rintro e w4 ⟨rfl, he⟩
        have k7 := kC.trans he
        clear z1 z2 z3 p1 p2 he
        obtain ⟨z1, z2, z3⟩ := k7.lt3
        obtain ⟨p1, p2⟩ := k7.cells
        go_wp2_with fail
        exact bodyPost_ret (v := .tuple #[(Vl.mk 1 (b2i true) sNone).v, .string sNone]) (by simp [results, Tryd.results12, go_sem, sNone, sType, Vl.zero, b2i, *]) rfl ⟨rfl, (((Only.of_ext (h3.trans k7)).setCell (.inr (by simp <;> omega)) _).setCell (.inr (by simp <;> omega)) _).setCell (.inr (by simp <;> omega)) _, (((h.ext (h3.trans k7)).far (by simp <;> omega) _).far (by simp <;> omega) _).far (by simp <;> omega) _⟩
      · rw [show opR 6 c sp ⟨3, xn, xs⟩ ⟨3, yn, ys⟩ = (⟨1, b2i true, sNone⟩, sNone, sp) from by (have := ordS_all xs ys; simp only [opR, orV, orW, this, hl, hq]; rfl)]
        go_enter Tryd.func12, Tryd.ntmps12
        go_wp2_with fail
        refine (rck_any ⟨3, xn, xs⟩ true ca _).mono ?_
        rintro e w2 ⟨rfl, he⟩
        have k2 := he
        clear he
        obtain ⟨z1, z2, z3⟩ := k2.lt3
        obtain ⟨p1, p2⟩ := k2.cells
        go_wp2_with fail
        refine (rck_any ⟨3, yn, ys⟩ true cb _).mono ?_
        rintro e w3 ⟨rfl, he⟩
        have k3 := k2.trans he
        clear z1 z2 z3 p1 p2 he
        obtain ⟨z1, z2, z3⟩ := k3.lt3
        obtain ⟨p1, p2⟩ := k3.cells
        go_wp2_with fail
        go_quiet (fail)
        obtain ⟨wA, hA⟩ : ∃ x, x = w3.drewN nq := ⟨_, rfl⟩
        have kA : Ext _ wA := hA ▸ k3.drewN nq
        rw [← hA]
        clear hA z1 z2 z3 p1 p2
        obtain ⟨z1, z2, z3⟩ := kA.lt3
        obtain ⟨p1, p2⟩ := kA.cells
        go_wp2_with fail
        go_quiet (fail)
        obtain ⟨wB, hA⟩ : ∃ x, x = wA.drewN nq := ⟨_, rfl⟩
        have kB : Ext _ wB := hA ▸ kA.drewN nq
        rw [← hA]
        clear hA z1 z2 z3 p1 p2
        obtain ⟨z1, z2, z3⟩ := kB.lt3
        obtain ⟨p1, p2⟩ := kB.cells
        go_wp2_with fail
        go_quiet ((go_at_call 31; exact Calls.quiet_of (rless_v6 xs ys _ hl _ (by omega) (by omega))))
        obtain ⟨wC, hA⟩ : ∃ x, x = wB.drewN nq := ⟨_, rfl⟩
        have kC : Ext _ wC := hA ▸ kB.drewN nq
        rw [← hA]
        clear hA z1 z2 z3 p1 p2
        obtain ⟨z1, z2, z3⟩ := kC.lt3
        obtain ⟨p1, p2⟩ := kC.cells
        go_wp2_with fail
        refine (rbool_any true _).mono ?_
        rintro e w4 ⟨rfl, he⟩
        have k7 := kC.trans he
        clear z1 z2 z3 p1 p2 he
        obtain ⟨z1, z2, z3⟩ := k7.lt3
        obtain ⟨p1, p2⟩ := k7.cells
        go_wp2_with fail
        exact bodyPost_ret (v := .tuple #[(Vl.mk 1 (b2i true) sNone).v, .string sNone]) (by simp [results, Tryd.results12, go_sem, sNone, sType, Vl.zero, b2i, *]) rfl ⟨rfl, (((Only.of_ext (h3.trans k7)).setCell (.inr (by simp <;> omega)) _).setCell (.inr (by simp <;> omega)) _).setCell (.inr (by simp <;> omega)) _, (((h.ext (h3.trans k7)).far (by simp <;> omega) _).far (by simp <;> omega) _).far (by simp <;> omega) _⟩
    · have hy' : (yk == 3) = false := by simp [hy]
      rw [show opR 6 c sp ⟨3, xn, xs⟩ ⟨yk, yn, ys⟩ = (.zero, sType, sp) from by simp [opR, orV, orW, hy]]
      go_enter Tryd.func12, Tryd.ntmps12
      go_wp2_with fail
      refine (rck_any ⟨3, xn, xs⟩ true ca _).mono ?_
      rintro e w2 ⟨rfl, he⟩
      have k2 := he
      clear he
      obtain ⟨z1, z2, z3⟩ := k2.lt3
      obtain ⟨p1, p2⟩ := k2.cells
      go_wp2_with fail
      refine (rck_any ⟨yk, yn, ys⟩ true cb _).mono ?_
      rintro e w3 ⟨rfl, he⟩
      have k3 := k2.trans he
      clear z1 z2 z3 p1 p2 he
      obtain ⟨z1, z2, z3⟩ := k3.lt3
      obtain ⟨p1, p2⟩ := k3.cells
      go_wp2_with fail
      go_quiet (fail)
      obtain ⟨wA, hA⟩ : ∃ x, x = w3.drewN nq := ⟨_, rfl⟩
      have kA : Ext _ wA := hA ▸ k3.drewN nq
      rw [← hA]
      clear hA z1 z2 z3 p1 p2
      obtain ⟨z1, z2, z3⟩ := kA.lt3
      obtain ⟨p1, p2⟩ := kA.cells
      go_wp2_with fail
      go_quiet (fail)
      obtain ⟨wB, hA⟩ : ∃ x, x = wA.drewN nq := ⟨_, rfl⟩
      have kB : Ext _ wB := hA ▸ kA.drewN nq
      rw [← hA]
      clear hA z1 z2 z3 p1 p2
      obtain ⟨z1, z2, z3⟩ := kB.lt3
      obtain ⟨p1, p2⟩ := kB.cells
      go_wp2_with fail
      exact bodyPost_ret (v := .tuple #[(Vl.zero).v, .string sType]) (by simp [results, Tryd.results12, go_sem, sNone, sType, Vl.zero, b2i, *]) rfl ⟨rfl, (((Only.of_ext (h3.trans kB)).setCell (.inr (by simp <;> omega)) _).setCell (.inr (by simp <;> omega)) _).setCell (.inr (by simp <;> omega)) _, (((h.ext (h3.trans kB)).far (by simp <;> omega) _).far (by simp <;> omega) _).far (by simp <;> omega) _⟩
  · have hx3' : (xk == 3) = false := by simp [hx3]
    rw [show opR 6 c sp ⟨xk, xn, xs⟩ ⟨yk, yn, ys⟩ = (.zero, sType, sp) from by simp [opR, orV, orW, hx2, hx3]]
    go_enter Tryd.func12, Tryd.ntmps12
    go_wp2_with fail
    refine (rck_any ⟨xk, xn, xs⟩ true ca _).mono ?_
    rintro e w2 ⟨rfl, he⟩
    have k2 := he
    clear he
    obtain ⟨z1, z2, z3⟩ := k2.lt3
    obtain ⟨p1, p2⟩ := k2.cells
    go_wp2_with fail
    refine (rck_any ⟨yk, yn, ys⟩ true cb _).mono ?_
    rintro e w3 ⟨rfl, he⟩
    have k3 := k2.trans he
    clear z1 z2 z3 p1 p2 he
    obtain ⟨z1, z2, z3⟩ := k3.lt3
    obtain ⟨p1, p2⟩ := k3.cells
    go_wp2_with fail
    go_quiet (fail)
    obtain ⟨wA, hA⟩ : ∃ x, x = w3.drewN nq := ⟨_, rfl⟩
    have kA : Ext _ wA := hA ▸ k3.drewN nq
    rw [← hA]
    clear hA z1 z2 z3 p1 p2
    obtain ⟨z1, z2, z3⟩ := kA.lt3
    obtain ⟨p1, p2⟩ := kA.cells
    go_wp2_with fail
    go_quiet (fail)
    obtain ⟨wB, hA⟩ : ∃ x, x = wA.drewN nq := ⟨_, rfl⟩
    have kB : Ext _ wB := hA ▸ kA.drewN nq
    rw [← hA]
    clear hA z1 z2 z3 p1 p2
    obtain ⟨z1, z2, z3⟩ := kB.lt3
    obtain ⟨p1, p2⟩ := kB.cells
    go_wp2_with fail
    exact bodyPost_ret (v := .tuple #[(Vl.zero).v, .string sType]) (by simp [results, Tryd.results12, go_sem, sNone, sType, Vl.zero, b2i, *]) rfl ⟨rfl, (((Only.of_ext (h3.trans kB)).setCell (.inr (by simp <;> omega)) _).setCell (.inr (by simp <;> omega)) _).setCell (.inr (by simp <;> omega)) _, (((h.ext (h3.trans kB)).far (by simp <;> omega) _).far (by simp <;> omega) _).far (by simp <;> omega) _⟩
end Go.Proofs.YtidjibghicejaaaDoor
