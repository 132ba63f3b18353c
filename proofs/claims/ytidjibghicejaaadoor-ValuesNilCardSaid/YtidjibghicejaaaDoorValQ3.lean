/- What an operator makes of two values: some operators more. -/
import Derived.Test.YtidjibghicejaaaDoorValP
namespace Go.Proofs.YtidjibghicejaaaDoor
open Go.RowKit
set_option linter.unusedVariables false

theorem op_9 (g : Nat) (tv : Value) (c sp : Int) (a b : Vl) (w : World) (h : HB w g tv c sp) (hs : 0 ≤ sp) (hc : sp ≤ c) (hc' : c ≤ 4611686018427387903) (ht : Pow w) (fa : Fits a) (fb : Fits b) :
    Calls Tryd.prog 11 #[.pointer (some ⟨g, 0, none⟩), .string ⟨#[61, 61]⟩, a.v, b.v] w fun e w' => e = .returned (.tuple #[(opA 9 c sp a b).1.v, .string (opA 9 c sp a b).2.1]) ∧ Only g w w' ∧ HB w' g tv c (opA 9 c sp a b).2.2 := by
  have hk0 : ¬ w.heap.size = g := by have := h.lt; omega
  have hk1 : ¬ w.heap.size + 1 = g := by have := h.lt; omega
  have hk2 : ¬ w.heap.size + 2 = g := by have := h.lt; omega
  have h3 := (((Ext.refl w).alloc (.cells #[.int .i64 a.k, .int .i64 a.n, .string a.s] 24)).alloc (.cells #[.int .i64 b.k, .int .i64 b.n, .string b.s] 24)).alloc (.cells #[.int .i64 0, .int .i64 0, .string ⟨#[]⟩] 24)
  cases ca : a.ck
  · rw [opA_no1 ca]
    go_enter Tryd.func11, Tryd.ntmps11
    go_wp2_with fail
    refine (operators_any _).mono ?_
    rintro e w1 ⟨rfl, hw1⟩
    have k1 : Ext _ w1 := hw1 ▸ (Ext.refl _).alloc _
    have hm := (congrArg (fun x : World => x.heap[_]?) hw1).trans (heap_alloc_new _ _)
    have lk := run_lookup_ok Tryd.underlying64 Tryd.underlying9 rfl opsL 12 _ (.string ⟨#[61, 61]⟩) (.func (.func 44) #[] #[]) hm rfl
    clear hw1 hm
    obtain ⟨z1, z2, z3⟩ := k1.lt3
    obtain ⟨p1, p2⟩ := k1.cells
    simp only [size_alloc] at lk
    go_wp2_with fail
    refine (ck_any a false ca _).mono ?_
    rintro e w2 ⟨rfl, he⟩
    have k2 := k1.trans he
    clear z1 z2 z3 p1 p2 he
    obtain ⟨z1, z2, z3⟩ := k2.lt3
    obtain ⟨p1, p2⟩ := k2.cells
    go_wp2_with fail
    exact bodyPost_ret (v := .tuple #[Vl.zero.v, .string sType]) (by simp [results, Tryd.results11, go_sem, sType, Vl.zero, *]) rfl ⟨rfl, (((Only.of_ext (h3.trans k2)).setCell (.inr (by simp <;> omega)) _).setCell (.inr (by simp <;> omega)) _).setCell (.inr (by simp <;> omega)) _, (((h.ext (h3.trans k2)).far (by simp <;> omega) _).far (by simp <;> omega) _).far (by simp <;> omega) _⟩
  cases cb : b.ck
  · rw [opA_no2 cb]
    go_enter Tryd.func11, Tryd.ntmps11
    go_wp2_with fail
    refine (operators_any _).mono ?_
    rintro e w1 ⟨rfl, hw1⟩
    have k1 : Ext _ w1 := hw1 ▸ (Ext.refl _).alloc _
    have hm := (congrArg (fun x : World => x.heap[_]?) hw1).trans (heap_alloc_new _ _)
    have lk := run_lookup_ok Tryd.underlying64 Tryd.underlying9 rfl opsL 12 _ (.string ⟨#[61, 61]⟩) (.func (.func 44) #[] #[]) hm rfl
    clear hw1 hm
    obtain ⟨z1, z2, z3⟩ := k1.lt3
    obtain ⟨p1, p2⟩ := k1.cells
    simp only [size_alloc] at lk
    go_wp2_with fail
    refine (ck_any a true ca _).mono ?_
    rintro e w2 ⟨rfl, he⟩
    have k2 := k1.trans he
    clear z1 z2 z3 p1 p2 he
    obtain ⟨z1, z2, z3⟩ := k2.lt3
    obtain ⟨p1, p2⟩ := k2.cells
    go_wp2_with fail
    refine (ck_any b false cb _).mono ?_
    rintro e w3 ⟨rfl, he⟩
    have k3 := k2.trans he
    clear z1 z2 z3 p1 p2 he
    obtain ⟨z1, z2, z3⟩ := k3.lt3
    obtain ⟨p1, p2⟩ := k3.cells
    go_wp2_with fail
    exact bodyPost_ret (v := .tuple #[Vl.zero.v, .string sType]) (by simp [results, Tryd.results11, go_sem, sType, Vl.zero, *]) rfl ⟨rfl, (((Only.of_ext (h3.trans k3)).setCell (.inr (by simp <;> omega)) _).setCell (.inr (by simp <;> omega)) _).setCell (.inr (by simp <;> omega)) _, (((h.ext (h3.trans k3)).far (by simp <;> omega) _).far (by simp <;> omega) _).far (by simp <;> omega) _⟩
  · rw [opA_yes ca cb]
    go_enter Tryd.func11, Tryd.ntmps11
    go_wp2_with fail
    refine (operators_any _).mono ?_
    rintro e w1 ⟨rfl, hw1⟩
    have k1 : Ext _ w1 := hw1 ▸ (Ext.refl _).alloc _
    have hm := (congrArg (fun x : World => x.heap[_]?) hw1).trans (heap_alloc_new _ _)
    have lk := run_lookup_ok Tryd.underlying64 Tryd.underlying9 rfl opsL 12 _ (.string ⟨#[61, 61]⟩) (.func (.func 44) #[] #[]) hm rfl
    clear hw1 hm
    obtain ⟨z1, z2, z3⟩ := k1.lt3
    obtain ⟨p1, p2⟩ := k1.cells
    simp only [size_alloc] at lk
    go_wp2_with fail
    refine (ck_any a true ca _).mono ?_
    rintro e w2 ⟨rfl, he⟩
    have k2 := k1.trans he
    clear z1 z2 z3 p1 p2 he
    obtain ⟨z1, z2, z3⟩ := k2.lt3
    obtain ⟨p1, p2⟩ := k2.cells
    go_wp2_with fail
    refine (ck_any b true cb _).mono ?_
    rintro e w3 ⟨rfl, he⟩
    have k3 := k2.trans he
    clear z1 z2 z3 p1 p2 he
    obtain ⟨z1, z2, z3⟩ := k3.lt3
    obtain ⟨p1, p2⟩ := k3.cells
    go_wp2_with fail
    refine (same_eq _ a b _).mono ?_
    rintro e w4 ⟨rfl, he⟩
    have k4 := k3.trans he
    clear z1 z2 z3 p1 p2 he
    obtain ⟨z1, z2, z3⟩ := k4.lt3
    obtain ⟨p1, p2⟩ := k4.cells
    go_wp2_with fail
    exact bodyPost_ret (v := .tuple #[(saV true a b).v, .string (sNone)]) (by simp [results, Tryd.results11, go_sem, *]) rfl ⟨rfl, (((Only.of_ext (h3.trans k4)).setCell (.inr (by simp <;> omega)) _).setCell (.inr (by simp <;> omega)) _).setCell (.inr (by simp <;> omega)) _, (((h.ext (h3.trans k4)).far (by simp <;> omega) _).far (by simp <;> omega) _).far (by simp <;> omega) _⟩

theorem op_10 (g : Nat) (tv : Value) (c sp : Int) (a b : Vl) (w : World) (h : HB w g tv c sp) (hs : 0 ≤ sp) (hc : sp ≤ c) (hc' : c ≤ 4611686018427387903) (ht : Pow w) (fa : Fits a) (fb : Fits b) :
    Calls Tryd.prog 11 #[.pointer (some ⟨g, 0, none⟩), .string ⟨#[126, 61]⟩, a.v, b.v] w fun e w' => e = .returned (.tuple #[(opA 10 c sp a b).1.v, .string (opA 10 c sp a b).2.1]) ∧ Only g w w' ∧ HB w' g tv c (opA 10 c sp a b).2.2 := by
  have hk0 : ¬ w.heap.size = g := by have := h.lt; omega
  have hk1 : ¬ w.heap.size + 1 = g := by have := h.lt; omega
  have hk2 : ¬ w.heap.size + 2 = g := by have := h.lt; omega
  have h3 := (((Ext.refl w).alloc (.cells #[.int .i64 a.k, .int .i64 a.n, .string a.s] 24)).alloc (.cells #[.int .i64 b.k, .int .i64 b.n, .string b.s] 24)).alloc (.cells #[.int .i64 0, .int .i64 0, .string ⟨#[]⟩] 24)
  cases ca : a.ck
  · rw [opA_no1 ca]
    go_enter Tryd.func11, Tryd.ntmps11
    go_wp2_with fail
    refine (operators_any _).mono ?_
    rintro e w1 ⟨rfl, hw1⟩
    have k1 : Ext _ w1 := hw1 ▸ (Ext.refl _).alloc _
    have hm := (congrArg (fun x : World => x.heap[_]?) hw1).trans (heap_alloc_new _ _)
    have lk := run_lookup_ok Tryd.underlying64 Tryd.underlying9 rfl opsL 12 _ (.string ⟨#[126, 61]⟩) (.func (.func 44) #[] #[]) hm rfl
    clear hw1 hm
    obtain ⟨z1, z2, z3⟩ := k1.lt3
    obtain ⟨p1, p2⟩ := k1.cells
    simp only [size_alloc] at lk
    go_wp2_with fail
    refine (ck_any a false ca _).mono ?_
    rintro e w2 ⟨rfl, he⟩
    have k2 := k1.trans he
    clear z1 z2 z3 p1 p2 he
    obtain ⟨z1, z2, z3⟩ := k2.lt3
    obtain ⟨p1, p2⟩ := k2.cells
    go_wp2_with fail
    exact bodyPost_ret (v := .tuple #[Vl.zero.v, .string sType]) (by simp [results, Tryd.results11, go_sem, sType, Vl.zero, *]) rfl ⟨rfl, (((Only.of_ext (h3.trans k2)).setCell (.inr (by simp <;> omega)) _).setCell (.inr (by simp <;> omega)) _).setCell (.inr (by simp <;> omega)) _, (((h.ext (h3.trans k2)).far (by simp <;> omega) _).far (by simp <;> omega) _).far (by simp <;> omega) _⟩
  cases cb : b.ck
  · rw [opA_no2 cb]
    go_enter Tryd.func11, Tryd.ntmps11
    go_wp2_with fail
    refine (operators_any _).mono ?_
    rintro e w1 ⟨rfl, hw1⟩
    have k1 : Ext _ w1 := hw1 ▸ (Ext.refl _).alloc _
    have hm := (congrArg (fun x : World => x.heap[_]?) hw1).trans (heap_alloc_new _ _)
    have lk := run_lookup_ok Tryd.underlying64 Tryd.underlying9 rfl opsL 12 _ (.string ⟨#[126, 61]⟩) (.func (.func 44) #[] #[]) hm rfl
    clear hw1 hm
    obtain ⟨z1, z2, z3⟩ := k1.lt3
    obtain ⟨p1, p2⟩ := k1.cells
    simp only [size_alloc] at lk
    go_wp2_with fail
    refine (ck_any a true ca _).mono ?_
    rintro e w2 ⟨rfl, he⟩
    have k2 := k1.trans he
    clear z1 z2 z3 p1 p2 he
    obtain ⟨z1, z2, z3⟩ := k2.lt3
    obtain ⟨p1, p2⟩ := k2.cells
    go_wp2_with fail
    refine (ck_any b false cb _).mono ?_
    rintro e w3 ⟨rfl, he⟩
    have k3 := k2.trans he
    clear z1 z2 z3 p1 p2 he
    obtain ⟨z1, z2, z3⟩ := k3.lt3
    obtain ⟨p1, p2⟩ := k3.cells
    go_wp2_with fail
    exact bodyPost_ret (v := .tuple #[Vl.zero.v, .string sType]) (by simp [results, Tryd.results11, go_sem, sType, Vl.zero, *]) rfl ⟨rfl, (((Only.of_ext (h3.trans k3)).setCell (.inr (by simp <;> omega)) _).setCell (.inr (by simp <;> omega)) _).setCell (.inr (by simp <;> omega)) _, (((h.ext (h3.trans k3)).far (by simp <;> omega) _).far (by simp <;> omega) _).far (by simp <;> omega) _⟩
  · rw [opA_yes ca cb]
    go_enter Tryd.func11, Tryd.ntmps11
    go_wp2_with fail
    refine (operators_any _).mono ?_
    rintro e w1 ⟨rfl, hw1⟩
    have k1 : Ext _ w1 := hw1 ▸ (Ext.refl _).alloc _
    have hm := (congrArg (fun x : World => x.heap[_]?) hw1).trans (heap_alloc_new _ _)
    have lk := run_lookup_ok Tryd.underlying64 Tryd.underlying9 rfl opsL 12 _ (.string ⟨#[126, 61]⟩) (.func (.func 44) #[] #[]) hm rfl
    clear hw1 hm
    obtain ⟨z1, z2, z3⟩ := k1.lt3
    obtain ⟨p1, p2⟩ := k1.cells
    simp only [size_alloc] at lk
    go_wp2_with fail
    refine (ck_any a true ca _).mono ?_
    rintro e w2 ⟨rfl, he⟩
    have k2 := k1.trans he
    clear z1 z2 z3 p1 p2 he
    obtain ⟨z1, z2, z3⟩ := k2.lt3
    obtain ⟨p1, p2⟩ := k2.cells
    go_wp2_with fail
    refine (ck_any b true cb _).mono ?_
    rintro e w3 ⟨rfl, he⟩
    have k3 := k2.trans he
    clear z1 z2 z3 p1 p2 he
    obtain ⟨z1, z2, z3⟩ := k3.lt3
    obtain ⟨p1, p2⟩ := k3.cells
    go_wp2_with fail
    refine (same_ne _ a b _).mono ?_
    rintro e w4 ⟨rfl, he⟩
    have k4 := k3.trans he
    clear z1 z2 z3 p1 p2 he
    obtain ⟨z1, z2, z3⟩ := k4.lt3
    obtain ⟨p1, p2⟩ := k4.cells
    go_wp2_with fail
    exact bodyPost_ret (v := .tuple #[(saV false a b).v, .string (sNone)]) (by simp [results, Tryd.results11, go_sem, *]) rfl ⟨rfl, (((Only.of_ext (h3.trans k4)).setCell (.inr (by simp <;> omega)) _).setCell (.inr (by simp <;> omega)) _).setCell (.inr (by simp <;> omega)) _, (((h.ext (h3.trans k4)).far (by simp <;> omega) _).far (by simp <;> omega) _).far (by simp <;> omega) _⟩
end Go.Proofs.YtidjibghicejaaaDoor
