/- Whether a value is so. -/
import Derived.Test.YtidjibghicejaaaDoorValS
import Derived.Test.YtidjibghicejaaaDoorExt
namespace Go.Proofs.YtidjibghicejaaaDoor
open Go.RowKit
set_option linter.unusedVariables false
set_option linter.unusedSimpArgs false

theorem bool_no (w : World) : Calls Tryd.prog 32 #[.bool false] w fun e w' => e = .returned (vv 1 0 ⟨#[]⟩) ∧ Ext w w' := bool_any false w
theorem so_none (k n : Int) (s : ByteArray) (h : k = 0) (w : World) : Calls Tryd.prog 15 #[vv k n s] w fun e w' => e = .returned (.bool false) ∧ Ext w w' := by
  have h' : (k != 0) = false := by simp [h]
  go_enter Tryd.func15, Tryd.ntmps15
  go_wp2
  refine wp_region_ext (by kernel_rfl) (by kernel_rfl) ?_
  repeat (
    refine wpQuiet_step (fun K hK => ?_)
    first
      | (apply ext_no
         focus (go_simp; done))
      | (apply ext_yes
         focus (go_simp; done)
         focus (
           intro wq hq
           have q1 := (Ext.cells hq).1
           have q2 := (Ext.cells hq).2
           go_simp
           first | exact rfl | (fail)))
    refine hK _ ?_
    clear hK K
    go_simp)
  refine wpQuiet_nil ?_
  intro we hwe
  go_wp2
  go_ret
  exact ⟨rfl, ((Ext.refl w).alloc _).trans hwe⟩
theorem so_bool (b : Bool) (w : World) : Calls Tryd.prog 15 #[vv 1 (b2i b) ⟨#[]⟩] w fun e w' => e = .returned (.bool b) ∧ Ext w w' := by
  cases b
  all_goals simp only [b2i, if_true, Bool.false_eq_true, if_false]
  all_goals go_enter Tryd.func15, Tryd.ntmps15
  all_goals go_wp2
  all_goals (
    refine wp_region_ext (by kernel_rfl) (by kernel_rfl) ?_
    repeat (
      refine wpQuiet_step (fun K hK => ?_)
      first
        | (apply ext_no
           focus (go_simp; done))
        | (apply ext_yes
           focus (go_simp; done)
           focus (
             intro wq hq
             have q1 := (Ext.cells hq).1
             have q2 := (Ext.cells hq).2
             go_simp
             first | exact rfl | ((go_at_call 32; exact Calls.ext_of hq (bool_no _)))))
      refine hK _ ?_
      clear hK K
      go_simp)
    refine wpQuiet_nil ?_
    intro we hwe)
  all_goals go_wp2
  all_goals go_ret
  all_goals exact ⟨rfl, ((Ext.refl w).alloc _).trans hwe⟩
theorem spent_nil (w : World) : Calls Tryd.prog 13 #[.pointer none] w fun e w' => e = .returned (.int .i64 0) ∧ w' = w := by
  go_enter Tryd.func13, Tryd.ntmps13
  go_wp2
  go_ret
  exact ⟨rfl, rfl⟩
set_option maxHeartbeats 2000000 in
theorem table_new (g : Nat) (w : World) (h : HB w g (.slice none 0 0) 10 0) :
    Calls Tryd.prog 19 #[.pointer (some ⟨g, 0, none⟩)] w fun e w' => e = .returned (.tuple #[vv 4 0 ⟨#[]⟩, .string ⟨#[]⟩]) ∧ Only g w w' ∧ ∃ tv, HB w' g tv 10 1 := by
  have hmm := @run_makeMap Tryd.prog
  have hg := h.lt
  have hk : ¬ w.heap.size = g := by omega
  go_enter Tryd.func19, Tryd.ntmps19
  go_wp2_with fail
  refine (take_any g _ 10 0 1 _ (h.alloc _) (by omega) (by omega) (by omega) (by omega) (by omega)).mono ?_
  rintro e w1 ⟨rfl, ho, hb⟩
  obtain ⟨q1, q2⟩ := ho.cells
  have hz := ho.lt1
  obtain ⟨c1, c2⟩ : tkB 10 0 1 = true ∧ tk 10 0 1 = 1 := by decide
  rw [c1]
  rw [c2] at hb
  have r0 : w1.cell? ⟨g, 0, none⟩ = some (.slice none 0 0) := hb.cell 0
  have rf : w1.frozen? ⟨g, 0, none⟩ = false := hb.frozen 0
  have hg1 := hb.lt
  have hk1 : ¬ w1.heap.size = g := by omega
  have hk2 : ¬ w1.heap.size + 1 = g := by omega
  have hk3 : ¬ w1.heap.size + 2 = g := by omega
  have hk4 : ¬ w1.heap.size + 3 = g := by omega
  have hk5 : ¬ w1.heap.size + 1 + 1 = g := by omega
  have hk6 : ¬ w1.heap.size + 1 + 1 + 1 = g := by omega
  have hm1 : ¬ w1.heap.size = w.heap.size := by omega
  have hm2 : ¬ w1.heap.size + 1 = w.heap.size := by omega
  have hm3 : ¬ w1.heap.size + 1 + 1 = w.heap.size := by omega
  have hm4 : ¬ w1.heap.size + 1 + 1 + 1 = w.heap.size := by omega
  have hm5 : ¬ g = w.heap.size := by omega
  have hn1 : w.heap.size < w1.heap.size + 1 := by omega
  have hn2 : w.heap.size < w1.heap.size + 1 + 1 := by omega
  have hn3 : w.heap.size < w1.heap.size + 1 + 1 + 1 := by omega
  have hl1 : g < w1.heap.size + 1 := by omega
  have hl2 : g < w1.heap.size + 1 + 1 := by omega
  have hl3 : g < w1.heap.size + 1 + 1 + 1 := by omega
  go_wp2_with fail
  have hO : Only g w w1 := ((Only.refl g w).alloc _).trans ho
  have hs : ∀ u, HB (w1.setCell ⟨g, 0, none⟩ u) g u 10 1 := fun u => hb.set_ 0 u
  exact bodyPost_ret (v := .tuple #[vv 4 0 ⟨#[]⟩, .string ⟨#[]⟩]) (by simp [results, Tryd.results19, go_sem, *]) rfl
    ⟨rfl, ((((((((hO.setCell (.inl rfl) _).setCell (.inr (Nat.le_refl _)) _).setCell (.inr (Nat.le_refl _)) _).setCell (.inr (Nat.le_refl _)) _).alloc _).alloc _).alloc _).alloc _).drew,
      _, ((((((((hs _).far hm5 _).far hm5 _).far hm5 _).alloc _).alloc _).alloc _).alloc _).drew⟩
end Go.Proofs.YtidjibghicejaaaDoor
