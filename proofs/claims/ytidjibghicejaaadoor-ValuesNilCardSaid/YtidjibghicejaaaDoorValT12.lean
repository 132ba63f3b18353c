/- What an operator makes of two values, by the reference: an operator that is none. -/
import Derived.Test.YtidjibghicejaaaDoorValS
namespace Go.Proofs.YtidjibghicejaaaDoor
open Go.RowKit
set_option linter.unusedVariables false
set_option linter.unusedSimpArgs false


set_option maxHeartbeats 4000000 in
set_option maxRecDepth 100000 in
theorem rop_none (g : Nat) (tv : Value) (c sp : Int) (o : ByteArray) (a b : Vl) (w : World) (h : RB w g tv c sp) (hs : 0 ≤ sp) (hc : sp ≤ c) (hc' : c ≤ 4611686018427387903) (ht : Pow w) (fa : Fits a) (fb : Fits b) (n0 : (o.toList == ([43] : List UInt8)) = false) (n1 : (o.toList == ([45] : List UInt8)) = false) (n2 : (o.toList == ([42] : List UInt8)) = false) (n3 : (o.toList == ([47] : List UInt8)) = false) (n4 : (o.toList == ([37] : List UInt8)) = false) (n5 : (o.toList == ([60] : List UInt8)) = false) (n6 : (o.toList == ([60, 61] : List UInt8)) = false) (n7 : (o.toList == ([62] : List UInt8)) = false) (n8 : (o.toList == ([62, 61] : List UInt8)) = false) (n9 : (o.toList == ([61, 61] : List UInt8)) = false) (n10 : (o.toList == ([126, 61] : List UInt8)) = false) (n11 : (o.toList == ([46, 46] : List UInt8)) = false) :
    Calls Tryd.prog 12 #[.pointer (some ⟨g, 0, none⟩), .string o, a.v, b.v] w fun e w' => e = .returned (.tuple #[(((Vl.zero, sType, sp) : Vl × ByteArray × Int)).1.v, .string (((Vl.zero, sType, sp) : Vl × ByteArray × Int)).2.1]) ∧ Only g w w' ∧ RB w' g tv c (((Vl.zero, sType, sp) : Vl × ByteArray × Int)).2.2 := by
  have hk0 : ¬ w.heap.size = g := by have := h.lt; omega
  have hk1 : ¬ w.heap.size + 1 = g := by have := h.lt; omega
  have hk2 : ¬ w.heap.size + 2 = g := by have := h.lt; omega
  have h3 := (((Ext.refl w).alloc (.cells #[.int .i64 a.k, .int .i64 a.n, .string a.s] 24)).alloc (.cells #[.int .i64 b.k, .int .i64 b.n, .string b.s] 24)).alloc (.cells #[.int .i64 0, .int .i64 0, .string ⟨#[]⟩] 24)
  cases ca : a.ck
  · skip
    go_enter Tryd.func12, Tryd.ntmps12
    go_wp2_with fail
    refine (rck_any a false ca _).mono ?_
    rintro e w2 ⟨rfl, he⟩
    have k2 := he
    clear he
    obtain ⟨z1, z2, z3⟩ := k2.lt3
    obtain ⟨p1, p2⟩ := k2.cells
    go_wp2_with fail
    exact bodyPost_ret (v := .tuple #[(Vl.zero).v, .string sType]) (by simp [results, Tryd.results12, go_sem, sNone, sType, Vl.zero, b2i, *]) rfl ⟨rfl, (((Only.of_ext (h3.trans k2)).setCell (.inr (by simp <;> omega)) _).setCell (.inr (by simp <;> omega)) _).setCell (.inr (by simp <;> omega)) _, (((h.ext (h3.trans k2)).far (by simp <;> omega) _).far (by simp <;> omega) _).far (by simp <;> omega) _⟩
  cases cb : b.ck
  · skip
    go_enter Tryd.func12, Tryd.ntmps12
    go_wp2_with fail
    refine (rck_any a true ca _).mono ?_
    rintro e w2 ⟨rfl, he⟩
    have k2 := he
    clear he
    obtain ⟨z1, z2, z3⟩ := k2.lt3
    obtain ⟨p1, p2⟩ := k2.cells
    go_wp2_with fail
    refine (rck_any b false cb _).mono ?_
    rintro e w3 ⟨rfl, he⟩
    have k3 := k2.trans he
    clear z1 z2 z3 p1 p2 he
    obtain ⟨z1, z2, z3⟩ := k3.lt3
    obtain ⟨p1, p2⟩ := k3.cells
    go_wp2_with fail
    exact bodyPost_ret (v := .tuple #[(Vl.zero).v, .string sType]) (by simp [results, Tryd.results12, go_sem, sNone, sType, Vl.zero, b2i, *]) rfl ⟨rfl, (((Only.of_ext (h3.trans k3)).setCell (.inr (by simp <;> omega)) _).setCell (.inr (by simp <;> omega)) _).setCell (.inr (by simp <;> omega)) _, (((h.ext (h3.trans k3)).far (by simp <;> omega) _).far (by simp <;> omega) _).far (by simp <;> omega) _⟩
  obtain ⟨xk, xn, xs⟩ := a
  obtain ⟨yk, yn, ys⟩ := b
  obtain ⟨a1, a2, a3⟩ := fa
  obtain ⟨b1, b2, b3⟩ := fb
  by_cases hx2 : xk = 2
  · subst hx2
    go_enter Tryd.func12, Tryd.ntmps12
    go_wp2_with fail
    refine (rck_any ⟨2, xn, xs⟩ true ca _).mono ?_
    rintro e w2 ⟨rfl, he⟩
    have k2 := he
    clear he
    obtain ⟨z1, z2, z3⟩ := k2.lt3
    obtain ⟨p1, p2⟩ := k2.cells
    go_wp2_with fail
    refine (rck_any ⟨yk, yn, ys⟩ true cb _).mono ?_
    rintro e w3 ⟨rfl, he⟩
    have k3 := k2.trans he
    clear z1 z2 z3 p1 p2 he
    obtain ⟨z1, z2, z3⟩ := k3.lt3
    obtain ⟨p1, p2⟩ := k3.cells
    go_wp2_with fail
    go_quiet (fail)
    obtain ⟨wA, hA⟩ : ∃ x, x = w3.drewN nq := ⟨_, rfl⟩
    have kA : Ext _ wA := hA ▸ k3.drewN nq
    rw [← hA]
    clear hA z1 z2 z3 p1 p2
    obtain ⟨z1, z2, z3⟩ := kA.lt3
    obtain ⟨p1, p2⟩ := kA.cells
    go_wp2_with fail
    exact bodyPost_ret (v := .tuple #[(Vl.zero).v, .string sType]) (by simp [results, Tryd.results12, go_sem, sNone, sType, Vl.zero, b2i, *]) rfl ⟨rfl, (((Only.of_ext (h3.trans kA)).setCell (.inr (by simp <;> omega)) _).setCell (.inr (by simp <;> omega)) _).setCell (.inr (by simp <;> omega)) _, (((h.ext (h3.trans kA)).far (by simp <;> omega) _).far (by simp <;> omega) _).far (by simp <;> omega) _⟩
  have hx2' : (xk == 2) = false := by simp [hx2]
  by_cases hx3 : xk = 3
  · subst hx3
    go_enter Tryd.func12, Tryd.ntmps12
    go_wp2_with fail
    refine (rck_any ⟨3, xn, xs⟩ true ca _).mono ?_
    rintro e w2 ⟨rfl, he⟩
    have k2 := he
    clear he
    obtain ⟨z1, z2, z3⟩ := k2.lt3
    obtain ⟨p1, p2⟩ := k2.cells
    go_wp2_with fail
    refine (rck_any ⟨yk, yn, ys⟩ true cb _).mono ?_
    rintro e w3 ⟨rfl, he⟩
    have k3 := k2.trans he
    clear z1 z2 z3 p1 p2 he
    obtain ⟨z1, z2, z3⟩ := k3.lt3
    obtain ⟨p1, p2⟩ := k3.cells
    go_wp2_with fail
    go_quiet (fail)
    obtain ⟨wA, hA⟩ : ∃ x, x = w3.drewN nq := ⟨_, rfl⟩
    have kA : Ext _ wA := hA ▸ k3.drewN nq
    rw [← hA]
    clear hA z1 z2 z3 p1 p2
    obtain ⟨z1, z2, z3⟩ := kA.lt3
    obtain ⟨p1, p2⟩ := kA.cells
    go_wp2_with fail
    exact bodyPost_ret (v := .tuple #[(Vl.zero).v, .string sType]) (by simp [results, Tryd.results12, go_sem, sNone, sType, Vl.zero, b2i, *]) rfl ⟨rfl, (((Only.of_ext (h3.trans kA)).setCell (.inr (by simp <;> omega)) _).setCell (.inr (by simp <;> omega)) _).setCell (.inr (by simp <;> omega)) _, (((h.ext (h3.trans kA)).far (by simp <;> omega) _).far (by simp <;> omega) _).far (by simp <;> omega) _⟩
  · have hx3' : (xk == 3) = false := by simp [hx3]
    go_enter Tryd.func12, Tryd.ntmps12
    go_wp2_with fail
    refine (rck_any ⟨xk, xn, xs⟩ true ca _).mono ?_
    rintro e w2 ⟨rfl, he⟩
    have k2 := he
    clear he
    obtain ⟨z1, z2, z3⟩ := k2.lt3
    obtain ⟨p1, p2⟩ := k2.cells
    go_wp2_with fail
    refine (rck_any ⟨yk, yn, ys⟩ true cb _).mono ?_
    rintro e w3 ⟨rfl, he⟩
    have k3 := k2.trans he
    clear z1 z2 z3 p1 p2 he
    obtain ⟨z1, z2, z3⟩ := k3.lt3
    obtain ⟨p1, p2⟩ := k3.cells
    go_wp2_with fail
    go_quiet (fail)
    obtain ⟨wA, hA⟩ : ∃ x, x = w3.drewN nq := ⟨_, rfl⟩
    have kA : Ext _ wA := hA ▸ k3.drewN nq
    rw [← hA]
    clear hA z1 z2 z3 p1 p2
    obtain ⟨z1, z2, z3⟩ := kA.lt3
    obtain ⟨p1, p2⟩ := kA.cells
    go_wp2_with fail
    exact bodyPost_ret (v := .tuple #[(Vl.zero).v, .string sType]) (by simp [results, Tryd.results12, go_sem, sNone, sType, Vl.zero, b2i, *]) rfl ⟨rfl, (((Only.of_ext (h3.trans kA)).setCell (.inr (by simp <;> omega)) _).setCell (.inr (by simp <;> omega)) _).setCell (.inr (by simp <;> omega)) _, (((h.ext (h3.trans kA)).far (by simp <;> omega) _).far (by simp <;> omega) _).far (by simp <;> omega) _⟩
end Go.Proofs.YtidjibghicejaaaDoor
