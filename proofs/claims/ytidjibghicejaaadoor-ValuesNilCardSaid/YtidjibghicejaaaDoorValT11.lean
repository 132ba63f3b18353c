/- What an operator makes of two values, by the reference: joined. -/
import Derived.Test.YtidjibghicejaaaDoorValS
namespace Go.Proofs.YtidjibghicejaaaDoor
open Go.RowKit
set_option linter.unusedVariables false
set_option linter.unusedSimpArgs false

theorem rjoin_eq {a : Vl} (h : joinB a = true) : rjoinS a = joinS a := by
  unfold rjoinS joinS
  by_cases h2 : a.k = 2
  · simp [h2]
  · have h3 : a.k = 3 := by simpa [joinB, h2] using h
    simp [h3]

set_option maxHeartbeats 4000000 in
set_option maxRecDepth 100000 in
theorem rop_11 (g : Nat) (tv : Value) (c sp : Int) (a b : Vl) (w : World) (h : RB w g tv c sp) (hs : 0 ≤ sp) (hc : sp ≤ c) (hc' : c ≤ 4611686018427387903) (ht : Pow w) (fa : Fits a) (fb : Fits b) :
    Calls Tryd.prog 12 #[.pointer (some ⟨g, 0, none⟩), .string ⟨#[46, 46]⟩, a.v, b.v] w fun e w' => e = .returned (.tuple #[(opA 11 c sp a b).1.v, .string (opA 11 c sp a b).2.1]) ∧ Only g w w' ∧ RB w' g tv c (opA 11 c sp a b).2.2 := by
  have hk0 : ¬ w.heap.size = g := by have := h.lt; omega
  have hk1 : ¬ w.heap.size + 1 = g := by have := h.lt; omega
  have hk2 : ¬ w.heap.size + 2 = g := by have := h.lt; omega
  have h3 := (((Ext.refl w).alloc (.cells #[.int .i64 a.k, .int .i64 a.n, .string a.s] 24)).alloc (.cells #[.int .i64 b.k, .int .i64 b.n, .string b.s] 24)).alloc (.cells #[.int .i64 0, .int .i64 0, .string ⟨#[]⟩] 24)
  cases ca : a.ck
  · rw [opA_no1 ca]
    go_enter Tryd.func12, Tryd.ntmps12
    go_wp2_with fail
    refine (rck_any a false ca _).mono ?_
    rintro e w2 ⟨rfl, he⟩
    have k2 := he
    clear he
    obtain ⟨z1, z2, z3⟩ := k2.lt3
    obtain ⟨p1, p2⟩ := k2.cells
    go_wp2_with fail
    exact bodyPost_ret (v := .tuple #[(Vl.zero).v, .string sType]) (by simp [results, Tryd.results12, go_sem, sNone, sType, Vl.zero, b2i, *]) rfl ⟨rfl, (((Only.of_ext (h3.trans k2)).setCell (.inr (by simp <;> omega)) _).setCell (.inr (by simp <;> omega)) _).setCell (.inr (by simp <;> omega)) _, (((h.ext (h3.trans k2)).far (by simp <;> omega) _).far (by simp <;> omega) _).far (by simp <;> omega) _⟩
  cases cb : b.ck
  · rw [opA_no2 cb]
    go_enter Tryd.func12, Tryd.ntmps12
    go_wp2_with fail
    refine (rck_any a true ca _).mono ?_
    rintro e w2 ⟨rfl, he⟩
    have k2 := he
    clear he
    obtain ⟨z1, z2, z3⟩ := k2.lt3
    obtain ⟨p1, p2⟩ := k2.cells
    go_wp2_with fail
    refine (rck_any b false cb _).mono ?_
    rintro e w3 ⟨rfl, he⟩
    have k3 := k2.trans he
    clear z1 z2 z3 p1 p2 he
    obtain ⟨z1, z2, z3⟩ := k3.lt3
    obtain ⟨p1, p2⟩ := k3.cells
    go_wp2_with fail
    exact bodyPost_ret (v := .tuple #[(Vl.zero).v, .string sType]) (by simp [results, Tryd.results12, go_sem, sNone, sType, Vl.zero, b2i, *]) rfl ⟨rfl, (((Only.of_ext (h3.trans k3)).setCell (.inr (by simp <;> omega)) _).setCell (.inr (by simp <;> omega)) _).setCell (.inr (by simp <;> omega)) _, (((h.ext (h3.trans k3)).far (by simp <;> omega) _).far (by simp <;> omega) _).far (by simp <;> omega) _⟩
  rw [opA_yes ca cb]
  obtain ⟨xk, xn, xs⟩ := a
  obtain ⟨yk, yn, ys⟩ := b
  obtain ⟨a1, a2, a3⟩ := fa
  obtain ⟨b1, b2, b3⟩ := fb
  by_cases hx2 : xk = 2
  · subst hx2
    cases jb : joinB ⟨yk, yn, ys⟩
    · have ja : joinB ⟨2, xn, xs⟩ = true := by simp [joinB, *]
      rw [show opR 11 c sp ⟨2, xn, xs⟩ ⟨yk, yn, ys⟩ = (.zero, sType, sp) from by simp [opR, joV, joW, joC, ja, jb]]
      go_enter Tryd.func12, Tryd.ntmps12
      go_wp2_with fail
      refine (rck_any ⟨2, xn, xs⟩ true ca _).mono ?_
      rintro e w2 ⟨rfl, he⟩
      have k2 := he
      clear he
      obtain ⟨z1, z2, z3⟩ := k2.lt3
      obtain ⟨p1, p2⟩ := k2.cells
      go_wp2_with fail
      refine (rck_any ⟨yk, yn, ys⟩ true cb _).mono ?_
      rintro e w3 ⟨rfl, he⟩
      have k3 := k2.trans he
      clear z1 z2 z3 p1 p2 he
      obtain ⟨z1, z2, z3⟩ := k3.lt3
      obtain ⟨p1, p2⟩ := k3.cells
      go_wp2_with fail
      go_quiet (fail)
      obtain ⟨wA, hA⟩ : ∃ x, x = w3.drewN nq := ⟨_, rfl⟩
      have kA : Ext _ wA := hA ▸ k3.drewN nq
      rw [← hA]
      clear hA z1 z2 z3 p1 p2
      obtain ⟨z1, z2, z3⟩ := kA.lt3
      obtain ⟨p1, p2⟩ := kA.cells
      go_wp2_with fail
      refine (rjoined_any ⟨2, xn, xs⟩ _ (ht.ext (h3.trans kA)) a1 a2).mono ?_
      rintro e w4 ⟨rfl, he⟩
      rw [ja]
      rw [show rjoinS ⟨2, xn, xs⟩ = joinS ⟨2, xn, xs⟩ from rjoin_eq ja]
      have k5 := kA.trans he
      clear z1 z2 z3 p1 p2 he
      obtain ⟨z1, z2, z3⟩ := k5.lt3
      obtain ⟨p1, p2⟩ := k5.cells
      go_wp2_with fail
      refine (rjoined_any ⟨yk, yn, ys⟩ _ (ht.ext (h3.trans k5)) b1 b2).mono ?_
      rintro e w5 ⟨rfl, he⟩
      rw [jb]
      have k6 := k5.trans he
      clear z1 z2 z3 p1 p2 he
      obtain ⟨z1, z2, z3⟩ := k6.lt3
      obtain ⟨p1, p2⟩ := k6.cells
      go_wp2_with fail
      exact bodyPost_ret (v := .tuple #[(Vl.zero).v, .string sType]) (by simp [results, Tryd.results12, go_sem, sNone, sType, Vl.zero, b2i, *]) rfl ⟨rfl, (((Only.of_ext (h3.trans k6)).setCell (.inr (by simp <;> omega)) _).setCell (.inr (by simp <;> omega)) _).setCell (.inr (by simp <;> omega)) _, (((h.ext (h3.trans k6)).far (by simp <;> omega) _).far (by simp <;> omega) _).far (by simp <;> omega) _⟩
    · have ja : joinB ⟨2, xn, xs⟩ = true := by simp [joinB, *]
      rw [show opR 11 c sp ⟨2, xn, xs⟩ ⟨yk, yn, ys⟩ = (mkV c sp (joinS ⟨2, xn, xs⟩ ++ joinS ⟨yk, yn, ys⟩), mkW c sp (joinS ⟨2, xn, xs⟩ ++ joinS ⟨yk, yn, ys⟩), mkC c sp (joinS ⟨2, xn, xs⟩ ++ joinS ⟨yk, yn, ys⟩)) from by simp [opR, joV, joW, joC, ja, jb]]
      have la := joinS_len (a := ⟨2, xn, xs⟩) ⟨a1, a2, a3⟩
      have lb := joinS_len (a := ⟨yk, yn, ys⟩) ⟨b1, b2, b3⟩
      have hz : (joinS ⟨2, xn, xs⟩ ++ joinS ⟨yk, yn, ys⟩).size ≤ 9223372036854775807 := by rw [ByteArray.size_append]; omega
      have hsum : (joinS ⟨2, xn, xs⟩).size + (joinS ⟨yk, yn, ys⟩).size ≤ 9223372036854775807 := by omega
      go_enter Tryd.func12, Tryd.ntmps12
      go_wp2_with fail
      refine (rck_any ⟨2, xn, xs⟩ true ca _).mono ?_
      rintro e w2 ⟨rfl, he⟩
      have k2 := he
      clear he
      obtain ⟨z1, z2, z3⟩ := k2.lt3
      obtain ⟨p1, p2⟩ := k2.cells
      go_wp2_with fail
      refine (rck_any ⟨yk, yn, ys⟩ true cb _).mono ?_
      rintro e w3 ⟨rfl, he⟩
      have k3 := k2.trans he
      clear z1 z2 z3 p1 p2 he
      obtain ⟨z1, z2, z3⟩ := k3.lt3
      obtain ⟨p1, p2⟩ := k3.cells
      go_wp2_with fail
      go_quiet (fail)
      obtain ⟨wA, hA⟩ : ∃ x, x = w3.drewN nq := ⟨_, rfl⟩
      have kA : Ext _ wA := hA ▸ k3.drewN nq
      rw [← hA]
      clear hA z1 z2 z3 p1 p2
      obtain ⟨z1, z2, z3⟩ := kA.lt3
      obtain ⟨p1, p2⟩ := kA.cells
      go_wp2_with fail
      refine (rjoined_any ⟨2, xn, xs⟩ _ (ht.ext (h3.trans kA)) a1 a2).mono ?_
      rintro e w4 ⟨rfl, he⟩
      rw [ja]
      rw [show rjoinS ⟨2, xn, xs⟩ = joinS ⟨2, xn, xs⟩ from rjoin_eq ja]
      have k5 := kA.trans he
      clear z1 z2 z3 p1 p2 he
      obtain ⟨z1, z2, z3⟩ := k5.lt3
      obtain ⟨p1, p2⟩ := k5.cells
      go_wp2_with fail
      refine (rjoined_any ⟨yk, yn, ys⟩ _ (ht.ext (h3.trans k5)) b1 b2).mono ?_
      rintro e w5 ⟨rfl, he⟩
      rw [jb]
      rw [show rjoinS ⟨yk, yn, ys⟩ = joinS ⟨yk, yn, ys⟩ from rjoin_eq jb]
      have k6 := k5.trans he
      clear z1 z2 z3 p1 p2 he
      obtain ⟨z1, z2, z3⟩ := k6.lt3
      obtain ⟨p1, p2⟩ := k6.cells
      go_wp2_with fail
      refine (rmake_any g tv c sp _ _ (h.ext (h3.trans k6)) hs hc hc' hz).mono ?_
      rintro e w6 ⟨rfl, ho, hb⟩
      obtain ⟨o1, o2⟩ := ho.cells
      go_wp2_with fail
      exact bodyPost_ret (v := .tuple #[(mkV c sp (joinS ⟨2, xn, xs⟩ ++ joinS ⟨yk, yn, ys⟩)).v, .string (mkW c sp (joinS ⟨2, xn, xs⟩ ++ joinS ⟨yk, yn, ys⟩))]) (by simp [results, Tryd.results12, go_sem, *]) rfl ⟨rfl, ((((Only.of_ext (h3.trans k6)).trans ho).setCell (.inr (by simp <;> omega)) _).setCell (.inr (by simp <;> omega)) _).setCell (.inr (by simp <;> omega)) _, ((hb.far (by simp <;> omega) _).far (by simp <;> omega) _).far (by simp <;> omega) _⟩
  have hx2' : (xk == 2) = false := by simp [hx2]
  by_cases hx3 : xk = 3
  · subst hx3
    cases jb : joinB ⟨yk, yn, ys⟩
    · have ja : joinB ⟨3, xn, xs⟩ = true := by simp [joinB, *]
      rw [show opR 11 c sp ⟨3, xn, xs⟩ ⟨yk, yn, ys⟩ = (.zero, sType, sp) from by simp [opR, joV, joW, joC, ja, jb]]
      go_enter Tryd.func12, Tryd.ntmps12
      go_wp2_with fail
      refine (rck_any ⟨3, xn, xs⟩ true ca _).mono ?_
      rintro e w2 ⟨rfl, he⟩
      have k2 := he
      clear he
      obtain ⟨z1, z2, z3⟩ := k2.lt3
      obtain ⟨p1, p2⟩ := k2.cells
      go_wp2_with fail
      refine (rck_any ⟨yk, yn, ys⟩ true cb _).mono ?_
      rintro e w3 ⟨rfl, he⟩
      have k3 := k2.trans he
      clear z1 z2 z3 p1 p2 he
      obtain ⟨z1, z2, z3⟩ := k3.lt3
      obtain ⟨p1, p2⟩ := k3.cells
      go_wp2_with fail
      go_quiet (fail)
      obtain ⟨wA, hA⟩ : ∃ x, x = w3.drewN nq := ⟨_, rfl⟩
      have kA : Ext _ wA := hA ▸ k3.drewN nq
      rw [← hA]
      clear hA z1 z2 z3 p1 p2
      obtain ⟨z1, z2, z3⟩ := kA.lt3
      obtain ⟨p1, p2⟩ := kA.cells
      go_wp2_with fail
      refine (rjoined_any ⟨3, xn, xs⟩ _ (ht.ext (h3.trans kA)) a1 a2).mono ?_
      rintro e w4 ⟨rfl, he⟩
      rw [ja]
      rw [show rjoinS ⟨3, xn, xs⟩ = joinS ⟨3, xn, xs⟩ from rjoin_eq ja]
      have k5 := kA.trans he
      clear z1 z2 z3 p1 p2 he
      obtain ⟨z1, z2, z3⟩ := k5.lt3
      obtain ⟨p1, p2⟩ := k5.cells
      go_wp2_with fail
      refine (rjoined_any ⟨yk, yn, ys⟩ _ (ht.ext (h3.trans k5)) b1 b2).mono ?_
      rintro e w5 ⟨rfl, he⟩
      rw [jb]
      have k6 := k5.trans he
      clear z1 z2 z3 p1 p2 he
      obtain ⟨z1, z2, z3⟩ := k6.lt3
      obtain ⟨p1, p2⟩ := k6.cells
      go_wp2_with fail
      exact bodyPost_ret (v := .tuple #[(Vl.zero).v, .string sType]) (by simp [results, Tryd.results12, go_sem, sNone, sType, Vl.zero, b2i, *]) rfl ⟨rfl, (((Only.of_ext (h3.trans k6)).setCell (.inr (by simp <;> omega)) _).setCell (.inr (by simp <;> omega)) _).setCell (.inr (by simp <;> omega)) _, (((h.ext (h3.trans k6)).far (by simp <;> omega) _).far (by simp <;> omega) _).far (by simp <;> omega) _⟩
    · have ja : joinB ⟨3, xn, xs⟩ = true := by simp [joinB, *]
      rw [show opR 11 c sp ⟨3, xn, xs⟩ ⟨yk, yn, ys⟩ = (mkV c sp (joinS ⟨3, xn, xs⟩ ++ joinS ⟨yk, yn, ys⟩), mkW c sp (joinS ⟨3, xn, xs⟩ ++ joinS ⟨yk, yn, ys⟩), mkC c sp (joinS ⟨3, xn, xs⟩ ++ joinS ⟨yk, yn, ys⟩)) from by simp [opR, joV, joW, joC, ja, jb]]
      have la := joinS_len (a := ⟨3, xn, xs⟩) ⟨a1, a2, a3⟩
      have lb := joinS_len (a := ⟨yk, yn, ys⟩) ⟨b1, b2, b3⟩
      have hz : (joinS ⟨3, xn, xs⟩ ++ joinS ⟨yk, yn, ys⟩).size ≤ 9223372036854775807 := by rw [ByteArray.size_append]; omega
      have hsum : (joinS ⟨3, xn, xs⟩).size + (joinS ⟨yk, yn, ys⟩).size ≤ 9223372036854775807 := by omega
      go_enter Tryd.func12, Tryd.ntmps12
      go_wp2_with fail
      refine (rck_any ⟨3, xn, xs⟩ true ca _).mono ?_
      rintro e w2 ⟨rfl, he⟩
      have k2 := he
      clear he
      obtain ⟨z1, z2, z3⟩ := k2.lt3
      obtain ⟨p1, p2⟩ := k2.cells
      go_wp2_with fail
      refine (rck_any ⟨yk, yn, ys⟩ true cb _).mono ?_
      rintro e w3 ⟨rfl, he⟩
      have k3 := k2.trans he
      clear z1 z2 z3 p1 p2 he
      obtain ⟨z1, z2, z3⟩ := k3.lt3
      obtain ⟨p1, p2⟩ := k3.cells
      go_wp2_with fail
      go_quiet (fail)
      obtain ⟨wA, hA⟩ : ∃ x, x = w3.drewN nq := ⟨_, rfl⟩
      have kA : Ext _ wA := hA ▸ k3.drewN nq
      rw [← hA]
      clear hA z1 z2 z3 p1 p2
      obtain ⟨z1, z2, z3⟩ := kA.lt3
      obtain ⟨p1, p2⟩ := kA.cells
      go_wp2_with fail
      refine (rjoined_any ⟨3, xn, xs⟩ _ (ht.ext (h3.trans kA)) a1 a2).mono ?_
      rintro e w4 ⟨rfl, he⟩
      rw [ja]
      rw [show rjoinS ⟨3, xn, xs⟩ = joinS ⟨3, xn, xs⟩ from rjoin_eq ja]
      have k5 := kA.trans he
      clear z1 z2 z3 p1 p2 he
      obtain ⟨z1, z2, z3⟩ := k5.lt3
      obtain ⟨p1, p2⟩ := k5.cells
      go_wp2_with fail
      refine (rjoined_any ⟨yk, yn, ys⟩ _ (ht.ext (h3.trans k5)) b1 b2).mono ?_
      rintro e w5 ⟨rfl, he⟩
      rw [jb]
      rw [show rjoinS ⟨yk, yn, ys⟩ = joinS ⟨yk, yn, ys⟩ from rjoin_eq jb]
      have k6 := k5.trans he
      clear z1 z2 z3 p1 p2 he
      obtain ⟨z1, z2, z3⟩ := k6.lt3
      obtain ⟨p1, p2⟩ := k6.cells
      go_wp2_with fail
      refine (rmake_any g tv c sp _ _ (h.ext (h3.trans k6)) hs hc hc' hz).mono ?_
      rintro e w6 ⟨rfl, ho, hb⟩
      obtain ⟨o1, o2⟩ := ho.cells
      go_wp2_with fail
      exact bodyPost_ret (v := .tuple #[(mkV c sp (joinS ⟨3, xn, xs⟩ ++ joinS ⟨yk, yn, ys⟩)).v, .string (mkW c sp (joinS ⟨3, xn, xs⟩ ++ joinS ⟨yk, yn, ys⟩))]) (by simp [results, Tryd.results12, go_sem, *]) rfl ⟨rfl, ((((Only.of_ext (h3.trans k6)).trans ho).setCell (.inr (by simp <;> omega)) _).setCell (.inr (by simp <;> omega)) _).setCell (.inr (by simp <;> omega)) _, ((hb.far (by simp <;> omega) _).far (by simp <;> omega) _).far (by simp <;> omega) _⟩
  · have hx3' : (xk == 3) = false := by simp [hx3]
    cases jb : joinB ⟨yk, yn, ys⟩
    · have ja : joinB ⟨xk, xn, xs⟩ = false := by simp [joinB, *]
      rw [show opR 11 c sp ⟨xk, xn, xs⟩ ⟨yk, yn, ys⟩ = (.zero, sType, sp) from by simp [opR, joV, joW, joC, ja, jb]]
      go_enter Tryd.func12, Tryd.ntmps12
      go_wp2_with fail
      refine (rck_any ⟨xk, xn, xs⟩ true ca _).mono ?_
      rintro e w2 ⟨rfl, he⟩
      have k2 := he
      clear he
      obtain ⟨z1, z2, z3⟩ := k2.lt3
      obtain ⟨p1, p2⟩ := k2.cells
      go_wp2_with fail
      refine (rck_any ⟨yk, yn, ys⟩ true cb _).mono ?_
      rintro e w3 ⟨rfl, he⟩
      have k3 := k2.trans he
      clear z1 z2 z3 p1 p2 he
      obtain ⟨z1, z2, z3⟩ := k3.lt3
      obtain ⟨p1, p2⟩ := k3.cells
      go_wp2_with fail
      go_quiet (fail)
      obtain ⟨wA, hA⟩ : ∃ x, x = w3.drewN nq := ⟨_, rfl⟩
      have kA : Ext _ wA := hA ▸ k3.drewN nq
      rw [← hA]
      clear hA z1 z2 z3 p1 p2
      obtain ⟨z1, z2, z3⟩ := kA.lt3
      obtain ⟨p1, p2⟩ := kA.cells
      go_wp2_with fail
      refine (rjoined_any ⟨xk, xn, xs⟩ _ (ht.ext (h3.trans kA)) a1 a2).mono ?_
      rintro e w4 ⟨rfl, he⟩
      rw [ja]
      have k5 := kA.trans he
      clear z1 z2 z3 p1 p2 he
      obtain ⟨z1, z2, z3⟩ := k5.lt3
      obtain ⟨p1, p2⟩ := k5.cells
      go_wp2_with fail
      refine (rjoined_any ⟨yk, yn, ys⟩ _ (ht.ext (h3.trans k5)) b1 b2).mono ?_
      rintro e w5 ⟨rfl, he⟩
      rw [jb]
      have k6 := k5.trans he
      clear z1 z2 z3 p1 p2 he
      obtain ⟨z1, z2, z3⟩ := k6.lt3
      obtain ⟨p1, p2⟩ := k6.cells
      go_wp2_with fail
      exact bodyPost_ret (v := .tuple #[(Vl.zero).v, .string sType]) (by simp [results, Tryd.results12, go_sem, sNone, sType, Vl.zero, b2i, *]) rfl ⟨rfl, (((Only.of_ext (h3.trans k6)).setCell (.inr (by simp <;> omega)) _).setCell (.inr (by simp <;> omega)) _).setCell (.inr (by simp <;> omega)) _, (((h.ext (h3.trans k6)).far (by simp <;> omega) _).far (by simp <;> omega) _).far (by simp <;> omega) _⟩
    · have ja : joinB ⟨xk, xn, xs⟩ = false := by simp [joinB, *]
      rw [show opR 11 c sp ⟨xk, xn, xs⟩ ⟨yk, yn, ys⟩ = (.zero, sType, sp) from by simp [opR, joV, joW, joC, ja, jb]]
      go_enter Tryd.func12, Tryd.ntmps12
      go_wp2_with fail
      refine (rck_any ⟨xk, xn, xs⟩ true ca _).mono ?_
      rintro e w2 ⟨rfl, he⟩
      have k2 := he
      clear he
      obtain ⟨z1, z2, z3⟩ := k2.lt3
      obtain ⟨p1, p2⟩ := k2.cells
      go_wp2_with fail
      refine (rck_any ⟨yk, yn, ys⟩ true cb _).mono ?_
      rintro e w3 ⟨rfl, he⟩
      have k3 := k2.trans he
      clear z1 z2 z3 p1 p2 he
      obtain ⟨z1, z2, z3⟩ := k3.lt3
      obtain ⟨p1, p2⟩ := k3.cells
      go_wp2_with fail
      go_quiet (fail)
      obtain ⟨wA, hA⟩ : ∃ x, x = w3.drewN nq := ⟨_, rfl⟩
      have kA : Ext _ wA := hA ▸ k3.drewN nq
      rw [← hA]
      clear hA z1 z2 z3 p1 p2
      obtain ⟨z1, z2, z3⟩ := kA.lt3
      obtain ⟨p1, p2⟩ := kA.cells
      go_wp2_with fail
      refine (rjoined_any ⟨xk, xn, xs⟩ _ (ht.ext (h3.trans kA)) a1 a2).mono ?_
      rintro e w4 ⟨rfl, he⟩
      rw [ja]
      have k5 := kA.trans he
      clear z1 z2 z3 p1 p2 he
      obtain ⟨z1, z2, z3⟩ := k5.lt3
      obtain ⟨p1, p2⟩ := k5.cells
      go_wp2_with fail
      refine (rjoined_any ⟨yk, yn, ys⟩ _ (ht.ext (h3.trans k5)) b1 b2).mono ?_
      rintro e w5 ⟨rfl, he⟩
      rw [jb]
      rw [show rjoinS ⟨yk, yn, ys⟩ = joinS ⟨yk, yn, ys⟩ from rjoin_eq jb]
      have k6 := k5.trans he
      clear z1 z2 z3 p1 p2 he
      obtain ⟨z1, z2, z3⟩ := k6.lt3
      obtain ⟨p1, p2⟩ := k6.cells
      go_wp2_with fail
      exact bodyPost_ret (v := .tuple #[(Vl.zero).v, .string sType]) (by simp [results, Tryd.results12, go_sem, sNone, sType, Vl.zero, b2i, *]) rfl ⟨rfl, (((Only.of_ext (h3.trans k6)).setCell (.inr (by simp <;> omega)) _).setCell (.inr (by simp <;> omega)) _).setCell (.inr (by simp <;> omega)) _, (((h.ext (h3.trans k6)).far (by simp <;> omega) _).far (by simp <;> omega) _).far (by simp <;> omega) _⟩
end Go.Proofs.YtidjibghicejaaaDoor
