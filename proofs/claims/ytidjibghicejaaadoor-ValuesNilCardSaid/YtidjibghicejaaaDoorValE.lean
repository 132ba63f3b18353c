/- What may be a value, by the reference; heaps are made; cells are taken. -/
import Derived.Test.YtidjibghicejaaaDoorValD
namespace Go.Proofs.YtidjibghicejaaaDoor
open Go.RowKit
set_option linter.unusedVariables false

theorem rcheck_any (k n : Int) (s : ByteArray) (w : World) : Calls Tryd.prog 14 #[vv k n s] w fun e w' => e = .returned (.bool (checkB k n s)) ∧ Ext w w' := by
  by_cases h0 : k = 0
  · subst h0
    go_enter Tryd.func14, Tryd.ntmps14
    go_wp2
    all_goals (go_ret; go_tidy; refine ⟨ret_of (bool_eq ?_), (Ext.refl w).alloc _⟩)
    all_goals (first | (simp_all [checkB]; done) | (simp_all [checkB]; omega))
  by_cases h1 : k = 1
  · subst h1
    go_enter Tryd.func14, Tryd.ntmps14
    go_wp2
    all_goals (go_ret; go_tidy; refine ⟨ret_of (bool_eq ?_), (Ext.refl w).alloc _⟩)
    all_goals (first | (simp_all [checkB]; done) | (simp_all [checkB]; omega))
  by_cases h2 : k = 2
  · subst h2
    go_enter Tryd.func14, Tryd.ntmps14
    go_wp2
    all_goals (go_ret; go_tidy; refine ⟨ret_of (bool_eq ?_), (Ext.refl w).alloc _⟩)
    all_goals (first | (simp_all [checkB]; done) | (simp_all [checkB]; omega))
  by_cases h3 : k = 3
  · subst h3
    go_enter Tryd.func14, Tryd.ntmps14
    go_wp2
    all_goals (go_ret; go_tidy; refine ⟨ret_of (bool_eq ?_), (Ext.refl w).alloc _⟩)
    all_goals (first | (simp_all [checkB]; done) | (simp_all [checkB]; omega))
  by_cases h4 : k = 4
  · subst h4
    go_enter Tryd.func14, Tryd.ntmps14
    go_wp2
    all_goals (go_ret; go_tidy; refine ⟨ret_of (bool_eq ?_), (Ext.refl w).alloc _⟩)
    all_goals (first | (simp_all [checkB]; done) | (simp_all [checkB]; omega))
  · go_enter Tryd.func14, Tryd.ntmps14
    go_wp2
    all_goals (go_ret; go_tidy; refine ⟨ret_of (bool_eq ?_), (Ext.refl w).alloc _⟩)
    all_goals (first | (simp_all [checkB]; done) | (simp_all [checkB]; omega))

theorem new_any (c : Int) (w : World) (hc : c ≤ 1000000) (hc' : -9223372036854775808 ≤ c) : Calls Tryd.prog 9 #[.int .i64 c] w fun e w' =>
    e = .returned (.pointer (some ⟨w.heap.size, 0, none⟩)) ∧ w.alloc (.cells #[.slice none 0 0, .int .i64 (max c 0), .int .i64 0] 61) = w' := by
  go_enter Tryd.func9, Tryd.ntmps9
  go_wp2
  go_ret
  exact ⟨rfl, rfl⟩
theorem rnew_any (c : Int) (w : World) (hc : c ≤ 1000000) (hc' : -9223372036854775808 ≤ c) : Calls Tryd.prog 10 #[.int .i64 c] w fun e w' =>
    e = .returned (.pointer (some ⟨w.heap.size, 0, none⟩)) ∧ w.alloc (.cells #[.slice none 0 0, .int .i64 (max c 0), .int .i64 0] 38) = w' := by
  go_enter Tryd.func10, Tryd.ntmps10
  go_wp2
  go_ret
  exact ⟨rfl, rfl⟩
end Go.Proofs.YtidjibghicejaaaDoor
