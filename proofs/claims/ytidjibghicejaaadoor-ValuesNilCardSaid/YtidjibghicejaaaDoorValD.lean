/- Contracts of values' makers, of what may be a value, of a heap's maker; and of their twins in the reference of layer 14. -/
import Derived.Test.YtidjibghicejaaaDoorValC
namespace Go.Proofs.YtidjibghicejaaaDoor
open Go.RowKit
set_option linter.unusedVariables false

theorem rdivided_any (a b : Int) (w : World) (ha : -9223372036854775808 ≤ a) (ha' : a ≤ 9223372036854775807) (hb : -9223372036854775808 ≤ b) (hb' : b ≤ 9223372036854775807) (h0 : ¬ b = 0) (h1 : ¬ b = -1) :
    Calls Tryd.prog 50 #[.int .i64 a, .int .i64 b] w fun e w' => e = .returned (.tuple #[.int .i64 (quoV a b), .int .i64 (remV a b), .bool true]) ∧ Ext w w' := by
  have hb0 : (b == 0) = false := by simp [h0]
  have hb1 : (b == -1) = false := by simp [h1]
  obtain ⟨q1, q2, q3⟩ := quo_bounds ha ha' h0 h1
  obtain ⟨r1, r2⟩ := rem_bounds (a := a) h0
  go_enter Tryd.func50, Tryd.ntmps50
  go_wp2
  go_quiet (fail)
  go_wp2
  all_goals (go_ret3; go_tidy; refine ⟨ret3_of ⟨int_eq ?_, int_eq ?_, rfl⟩, (Ext.refl w).drewN _⟩)
  all_goals (simp only [quoV, remV])
  all_goals first
    | (rw [if_pos (by unfold turns; omega)]; done)
    | (rw [if_pos (by unfold turns; omega)]; exact IntWalk.wrap64_in _ (by omega))
    | (rw [if_neg (by unfold turns; omega)]; done)

theorem rdivided_one (a : Int) (w : World) (ha : -9223372036854775808 ≤ a) (ha' : a ≤ 9223372036854775807) :
    Calls Tryd.prog 50 #[.int .i64 a, .int .i64 (-1)] w fun e w' => e = .returned (.tuple #[.int .i64 (fitV (-a)), .int .i64 0, .bool (inI64 (-a))]) ∧ w = w' := by
  by_cases h : a = -9223372036854775808
  · subst h
    go_enter Tryd.func50, Tryd.ntmps50
    go_wp2
    all_goals (go_ret3; go_tidy; exact ⟨ret3_of ⟨by rfl, rfl, by rfl⟩, rfl⟩)
  · have h' : (a == -9223372036854775808) = false := by simp [h]
    go_enter Tryd.func50, Tryd.ntmps50
    go_wp2
    all_goals (go_ret3; go_tidy; exact ⟨ret3_of ⟨(fit_yes (by omega) (by omega) (by omega)).1, rfl, (fit_yes (m := -a) (by omega) (by omega) (by omega)).2⟩, rfl⟩)

abbrev vv (k n : Int) (s : ByteArray) : Value := .agg #[.int .i64 k, .int .i64 n, .string s]

theorem int_any (n : Int) (w : World) : Calls Tryd.prog 16 #[.int .i64 n] w fun e w' => e = .returned (vv 2 n ⟨#[]⟩) ∧ Ext w w' := by
  go_enter Tryd.func16, Tryd.ntmps16
  go_wp2
  exact bodyPost_ret (v := vv 2 n ⟨#[]⟩) (by simp [results, Tryd.results16, go_sem]) rfl ⟨rfl, (Ext.refl w).alloc _⟩
theorem rint_any (n : Int) (w : World) : Calls Tryd.prog 49 #[.int .i64 n] w fun e w' => e = .returned (vv 2 n ⟨#[]⟩) ∧ Ext w w' := by
  go_enter Tryd.func49, Tryd.ntmps49
  go_wp2
  exact bodyPost_ret (v := vv 2 n ⟨#[]⟩) (by simp [results, Tryd.results49, go_sem]) rfl ⟨rfl, (Ext.refl w).alloc _⟩
theorem text_any (s : ByteArray) (w : World) : Calls Tryd.prog 41 #[.string s] w fun e w' => e = .returned (vv 3 0 s) ∧ Ext w w' := by
  go_enter Tryd.func41, Tryd.ntmps41
  go_wp2
  exact bodyPost_ret (v := vv 3 0 s) (by simp [results, Tryd.results41, go_sem]) rfl ⟨rfl, (Ext.refl w).alloc _⟩
theorem rtext_any (s : ByteArray) (w : World) : Calls Tryd.prog 53 #[.string s] w fun e w' => e = .returned (vv 3 0 s) ∧ Ext w w' := by
  go_enter Tryd.func53, Tryd.ntmps53
  go_wp2
  exact bodyPost_ret (v := vv 3 0 s) (by simp [results, Tryd.results53, go_sem]) rfl ⟨rfl, (Ext.refl w).alloc _⟩
def b2i (b : Bool) : Int := if b then 1 else 0
theorem bool_any (b : Bool) (w : World) : Calls Tryd.prog 32 #[.bool b] w fun e w' => e = .returned (vv 1 (b2i b) ⟨#[]⟩) ∧ Ext w w' := by
  cases b
  all_goals go_enter Tryd.func32, Tryd.ntmps32
  all_goals go_wp2
  · exact bodyPost_ret (v := vv 1 0 ⟨#[]⟩) (by simp [results, Tryd.results32, go_sem]) rfl ⟨rfl, (Ext.refl w).alloc _⟩
  · exact bodyPost_ret (v := vv 1 1 ⟨#[]⟩) (by simp [results, Tryd.results32, go_sem]) rfl ⟨rfl, (Ext.refl w).alloc _⟩
theorem rbool_any (b : Bool) (w : World) : Calls Tryd.prog 27 #[.bool b] w fun e w' => e = .returned (vv 1 (b2i b) ⟨#[]⟩) ∧ Ext w w' := by
  cases b
  all_goals go_enter Tryd.func27, Tryd.ntmps27
  all_goals go_wp2
  · exact bodyPost_ret (v := vv 1 0 ⟨#[]⟩) (by simp [results, Tryd.results27, go_sem]) rfl ⟨rfl, (Ext.refl w).alloc _⟩
  · exact bodyPost_ret (v := vv 1 1 ⟨#[]⟩) (by simp [results, Tryd.results27, go_sem]) rfl ⟨rfl, (Ext.refl w).alloc _⟩

/-- What may be a value (P14.3). -/
def checkB (k n : Int) (s : ByteArray) : Bool :=
  if k = 0 then n == 0 && s.toList.isEmpty else if k = 1 then s.toList.isEmpty && (n == 0 || n == 1) else if k = 2 then s.toList.isEmpty
  else if k = 3 then n == 0 && decide (s.size ≤ 1048576) else if k = 4 then s.toList.isEmpty && decide (0 ≤ n) else false
theorem check_any (k n : Int) (s : ByteArray) (w : World) : Calls Tryd.prog 26 #[vv k n s] w fun e w' => e = .returned (.bool (checkB k n s)) ∧ Ext w w' := by
  by_cases h0 : k = 0
  · subst h0
    go_enter Tryd.func26, Tryd.ntmps26
    go_wp2
    all_goals (go_ret; go_tidy; refine ⟨ret_of (bool_eq ?_), (Ext.refl w).alloc _⟩)
    all_goals (first | (simp_all [checkB]; done) | (simp_all [checkB]; omega))
  by_cases h1 : k = 1
  · subst h1
    go_enter Tryd.func26, Tryd.ntmps26
    go_wp2
    all_goals (go_ret; go_tidy; refine ⟨ret_of (bool_eq ?_), (Ext.refl w).alloc _⟩)
    all_goals (first | (simp_all [checkB]; done) | (simp_all [checkB]; omega))
  by_cases h2 : k = 2
  · subst h2
    go_enter Tryd.func26, Tryd.ntmps26
    go_wp2
    all_goals (go_ret; go_tidy; refine ⟨ret_of (bool_eq ?_), (Ext.refl w).alloc _⟩)
    all_goals (first | (simp_all [checkB]; done) | (simp_all [checkB]; omega))
  by_cases h3 : k = 3
  · subst h3
    go_enter Tryd.func26, Tryd.ntmps26
    go_wp2
    all_goals (go_ret; go_tidy; refine ⟨ret_of (bool_eq ?_), (Ext.refl w).alloc _⟩)
    all_goals (first | (simp_all [checkB]; done) | (simp_all [checkB]; omega))
  by_cases h4 : k = 4
  · subst h4
    go_enter Tryd.func26, Tryd.ntmps26
    go_wp2
    all_goals (go_ret; go_tidy; refine ⟨ret_of (bool_eq ?_), (Ext.refl w).alloc _⟩)
    all_goals (first | (simp_all [checkB]; done) | (simp_all [checkB]; omega))
  · go_enter Tryd.func26, Tryd.ntmps26
    go_wp2
    all_goals (go_ret; go_tidy; refine ⟨ret_of (bool_eq ?_), (Ext.refl w).alloc _⟩)
    all_goals (first | (simp_all [checkB]; done) | (simp_all [checkB]; omega))
end Go.Proofs.YtidjibghicejaaaDoor
