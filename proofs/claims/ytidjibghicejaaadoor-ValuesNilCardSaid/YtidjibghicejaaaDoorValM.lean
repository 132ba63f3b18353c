/- What the orders make of two values. -/
import Derived.Test.YtidjibghicejaaaDoorValL
namespace Go.Proofs.YtidjibghicejaaaDoor
open Go.RowKit
set_option linter.unusedVariables false

theorem orV_int (o : Nat) (a b : Vl) (h : a.k = 2 ∧ b.k = 2) : orV o a b = ⟨1, b2i (ordI o a.n b.n), sNone⟩ ∧ orW a b = sNone := by simp [orV, orW, h]
theorem orV_str (o : Nat) (a b : Vl) (h : a.k = 3 ∧ b.k = 3) : orV o a b = ⟨1, b2i (ordS o a.s b.s), sNone⟩ ∧ orW a b = sNone := by simp [orV, orW, h]
theorem orV_no (o : Nat) (a b : Vl) (h : ¬ (a.k = 2 ∧ b.k = 2)) (h' : ¬ (a.k = 3 ∧ b.k = 3)) : orV o a b = .zero ∧ orW a b = sType := by simp only [orV, orW, if_neg h, if_neg h', and_self]
theorem bool_far (b : Bool) {w W : World} (hW : Ext w W) : Calls Tryd.prog 32 #[.bool b] W fun e w' => e = .returned (vv 1 (b2i b) ⟨#[]⟩) ∧ Ext w w' :=
  (bool_any b W).mono fun _ _ ⟨h, h'⟩ => ⟨h, hW.trans h'⟩

theorem order_0 (h : Value) (a b : Vl) (w : World) : Calls Tryd.prog 43 #[h, .string ⟨#[60]⟩, a.v, b.v] w fun e w' => e = .returned (.tuple #[(orV 0 a b).v, .string (orW a b)]) ∧ Ext w w' := by
  obtain ⟨k, n, s⟩ := a
  obtain ⟨k', n', s'⟩ := b
  by_cases hi : k = 2 ∧ k' = 2
  · obtain ⟨rfl, rfl⟩ := hi
    rw [(orV_int 0 ⟨2, n, s⟩ ⟨2, n', s'⟩ ⟨rfl, rfl⟩).1, (orV_int 0 ⟨2, n, s⟩ ⟨2, n', s'⟩ ⟨rfl, rfl⟩).2]
    go_enter Tryd.func43, Tryd.ntmps43
    go_wp2_with (first
      | (go_at_call 61; refine (holdsI_0 n n' _).mono ?_; rintro e w' ⟨rfl, he⟩; have he1 := (((Ext.refl w).alloc _).alloc _).alloc _ |>.trans he)
      | (go_at_call 32; refine (bool_any _ _).mono ?_; rintro e w'' ⟨rfl, hf⟩; have he2 := he1.trans hf; have hg := he.trans hf; obtain ⟨z1, z2, z3⟩ := hg.lt3; obtain ⟨p1, p2⟩ := hg.cells))
    exact bodyPost_ret (v := .tuple #[(Vl.mk 1 (b2i (ordI 0 n n')) sNone).v, .string sNone]) (by simp [results, Tryd.results43, go_sem, sNone, *]) rfl ⟨rfl, (((he2.setCell (by simp <;> omega) _).setCell (by simp <;> omega) _).setCell (by simp <;> omega) _)⟩
  by_cases hs : k = 3 ∧ k' = 3
  · obtain ⟨rfl, rfl⟩ := hs
    rw [(orV_str 0 ⟨3, n, s⟩ ⟨3, n', s'⟩ ⟨rfl, rfl⟩).1, (orV_str 0 ⟨3, n, s⟩ ⟨3, n', s'⟩ ⟨rfl, rfl⟩).2]
    clear hi
    go_enter Tryd.func43, Tryd.ntmps43
    go_wp2_with (first
      | (go_at_call 62; refine (holdsS_0 s s' _).mono ?_; rintro e w' ⟨rfl, he⟩; have he1 := (((Ext.refl w).alloc _).alloc _).alloc _ |>.trans he)
      | (go_at_call 32; refine (bool_any _ _).mono ?_; rintro e w'' ⟨rfl, hf⟩; have he2 := he1.trans hf; have hg := he.trans hf; obtain ⟨z1, z2, z3⟩ := hg.lt3; obtain ⟨p1, p2⟩ := hg.cells))
    exact bodyPost_ret (v := .tuple #[(Vl.mk 1 (b2i (ordS 0 s s')) sNone).v, .string sNone]) (by simp [results, Tryd.results43, go_sem, sNone, *]) rfl ⟨rfl, (((he2.setCell (by simp <;> omega) _).setCell (by simp <;> omega) _).setCell (by simp <;> omega) _)⟩
  · rw [(orV_no 0 ⟨k, n, s⟩ ⟨k', n', s'⟩ hi hs).1, (orV_no 0 ⟨k, n, s⟩ ⟨k', n', s'⟩ hi hs).2]
    have q1 : ((k == 2) = true → (k' == 2) = false) := by simpa using hi
    have q2 : ((k == 3) = true → (k' == 3) = false) := by simpa using hs
    cases e1 : (k == 2) <;> cases e2 : (k == 3) <;> cases e3 : (k' == 2) <;> cases e4 : (k' == 3) <;> simp only [e1, e2, e3, e4, true_implies, false_implies, Bool.true_eq_false, Bool.false_eq_true] at q1 q2
    all_goals (clear hi hs)
    all_goals go_enter Tryd.func43, Tryd.ntmps43
    all_goals go_wp2_with fail
    all_goals exact bodyPost_ret (v := .tuple #[Vl.zero.v, .string sType]) (by simp [results, Tryd.results43, go_sem, sType, Vl.zero]) rfl ⟨rfl, (((Ext.refl w).alloc _).alloc _).alloc _⟩

theorem order_1 (h : Value) (a b : Vl) (w : World) : Calls Tryd.prog 43 #[h, .string ⟨#[60, 61]⟩, a.v, b.v] w fun e w' => e = .returned (.tuple #[(orV 1 a b).v, .string (orW a b)]) ∧ Ext w w' := by
  obtain ⟨k, n, s⟩ := a
  obtain ⟨k', n', s'⟩ := b
  by_cases hi : k = 2 ∧ k' = 2
  · obtain ⟨rfl, rfl⟩ := hi
    rw [(orV_int 1 ⟨2, n, s⟩ ⟨2, n', s'⟩ ⟨rfl, rfl⟩).1, (orV_int 1 ⟨2, n, s⟩ ⟨2, n', s'⟩ ⟨rfl, rfl⟩).2]
    go_enter Tryd.func43, Tryd.ntmps43
    go_wp2_with (first
      | (go_at_call 61; refine (holdsI_1 n n' _).mono ?_; rintro e w' ⟨rfl, he⟩; have he1 := (((Ext.refl w).alloc _).alloc _).alloc _ |>.trans he)
      | (go_at_call 32; refine (bool_any _ _).mono ?_; rintro e w'' ⟨rfl, hf⟩; have he2 := he1.trans hf; have hg := he.trans hf; obtain ⟨z1, z2, z3⟩ := hg.lt3; obtain ⟨p1, p2⟩ := hg.cells))
    exact bodyPost_ret (v := .tuple #[(Vl.mk 1 (b2i (ordI 1 n n')) sNone).v, .string sNone]) (by simp [results, Tryd.results43, go_sem, sNone, *]) rfl ⟨rfl, (((he2.setCell (by simp <;> omega) _).setCell (by simp <;> omega) _).setCell (by simp <;> omega) _)⟩
  by_cases hs : k = 3 ∧ k' = 3
  · obtain ⟨rfl, rfl⟩ := hs
    rw [(orV_str 1 ⟨3, n, s⟩ ⟨3, n', s'⟩ ⟨rfl, rfl⟩).1, (orV_str 1 ⟨3, n, s⟩ ⟨3, n', s'⟩ ⟨rfl, rfl⟩).2]
    clear hi
    go_enter Tryd.func43, Tryd.ntmps43
    go_wp2_with (first
      | (go_at_call 62; refine (holdsS_1 s s' _).mono ?_; rintro e w' ⟨rfl, he⟩; have he1 := (((Ext.refl w).alloc _).alloc _).alloc _ |>.trans he)
      | (go_at_call 32; refine (bool_any _ _).mono ?_; rintro e w'' ⟨rfl, hf⟩; have he2 := he1.trans hf; have hg := he.trans hf; obtain ⟨z1, z2, z3⟩ := hg.lt3; obtain ⟨p1, p2⟩ := hg.cells))
    exact bodyPost_ret (v := .tuple #[(Vl.mk 1 (b2i (ordS 1 s s')) sNone).v, .string sNone]) (by simp [results, Tryd.results43, go_sem, sNone, *]) rfl ⟨rfl, (((he2.setCell (by simp <;> omega) _).setCell (by simp <;> omega) _).setCell (by simp <;> omega) _)⟩
  · rw [(orV_no 1 ⟨k, n, s⟩ ⟨k', n', s'⟩ hi hs).1, (orV_no 1 ⟨k, n, s⟩ ⟨k', n', s'⟩ hi hs).2]
    have q1 : ((k == 2) = true → (k' == 2) = false) := by simpa using hi
    have q2 : ((k == 3) = true → (k' == 3) = false) := by simpa using hs
    cases e1 : (k == 2) <;> cases e2 : (k == 3) <;> cases e3 : (k' == 2) <;> cases e4 : (k' == 3) <;> simp only [e1, e2, e3, e4, true_implies, false_implies, Bool.true_eq_false, Bool.false_eq_true] at q1 q2
    all_goals (clear hi hs)
    all_goals go_enter Tryd.func43, Tryd.ntmps43
    all_goals go_wp2_with fail
    all_goals exact bodyPost_ret (v := .tuple #[Vl.zero.v, .string sType]) (by simp [results, Tryd.results43, go_sem, sType, Vl.zero]) rfl ⟨rfl, (((Ext.refl w).alloc _).alloc _).alloc _⟩

theorem order_2 (h : Value) (a b : Vl) (w : World) : Calls Tryd.prog 43 #[h, .string ⟨#[62]⟩, a.v, b.v] w fun e w' => e = .returned (.tuple #[(orV 2 a b).v, .string (orW a b)]) ∧ Ext w w' := by
  obtain ⟨k, n, s⟩ := a
  obtain ⟨k', n', s'⟩ := b
  by_cases hi : k = 2 ∧ k' = 2
  · obtain ⟨rfl, rfl⟩ := hi
    rw [(orV_int 2 ⟨2, n, s⟩ ⟨2, n', s'⟩ ⟨rfl, rfl⟩).1, (orV_int 2 ⟨2, n, s⟩ ⟨2, n', s'⟩ ⟨rfl, rfl⟩).2]
    go_enter Tryd.func43, Tryd.ntmps43
    go_wp2_with (first
      | (go_at_call 61; refine (holdsI_2 n n' _).mono ?_; rintro e w' ⟨rfl, he⟩; have he1 := (((Ext.refl w).alloc _).alloc _).alloc _ |>.trans he)
      | (go_at_call 32; refine (bool_any _ _).mono ?_; rintro e w'' ⟨rfl, hf⟩; have he2 := he1.trans hf; have hg := he.trans hf; obtain ⟨z1, z2, z3⟩ := hg.lt3; obtain ⟨p1, p2⟩ := hg.cells))
    exact bodyPost_ret (v := .tuple #[(Vl.mk 1 (b2i (ordI 2 n n')) sNone).v, .string sNone]) (by simp [results, Tryd.results43, go_sem, sNone, *]) rfl ⟨rfl, (((he2.setCell (by simp <;> omega) _).setCell (by simp <;> omega) _).setCell (by simp <;> omega) _)⟩
  by_cases hs : k = 3 ∧ k' = 3
  · obtain ⟨rfl, rfl⟩ := hs
    rw [(orV_str 2 ⟨3, n, s⟩ ⟨3, n', s'⟩ ⟨rfl, rfl⟩).1, (orV_str 2 ⟨3, n, s⟩ ⟨3, n', s'⟩ ⟨rfl, rfl⟩).2]
    clear hi
    go_enter Tryd.func43, Tryd.ntmps43
    go_wp2_with (first
      | (go_at_call 62; refine (holdsS_2 s s' _).mono ?_; rintro e w' ⟨rfl, he⟩; have he1 := (((Ext.refl w).alloc _).alloc _).alloc _ |>.trans he)
      | (go_at_call 32; refine (bool_any _ _).mono ?_; rintro e w'' ⟨rfl, hf⟩; have he2 := he1.trans hf; have hg := he.trans hf; obtain ⟨z1, z2, z3⟩ := hg.lt3; obtain ⟨p1, p2⟩ := hg.cells))
    exact bodyPost_ret (v := .tuple #[(Vl.mk 1 (b2i (ordS 2 s s')) sNone).v, .string sNone]) (by simp [results, Tryd.results43, go_sem, sNone, *]) rfl ⟨rfl, (((he2.setCell (by simp <;> omega) _).setCell (by simp <;> omega) _).setCell (by simp <;> omega) _)⟩
  · rw [(orV_no 2 ⟨k, n, s⟩ ⟨k', n', s'⟩ hi hs).1, (orV_no 2 ⟨k, n, s⟩ ⟨k', n', s'⟩ hi hs).2]
    have q1 : ((k == 2) = true → (k' == 2) = false) := by simpa using hi
    have q2 : ((k == 3) = true → (k' == 3) = false) := by simpa using hs
    cases e1 : (k == 2) <;> cases e2 : (k == 3) <;> cases e3 : (k' == 2) <;> cases e4 : (k' == 3) <;> simp only [e1, e2, e3, e4, true_implies, false_implies, Bool.true_eq_false, Bool.false_eq_true] at q1 q2
    all_goals (clear hi hs)
    all_goals go_enter Tryd.func43, Tryd.ntmps43
    all_goals go_wp2_with fail
    all_goals exact bodyPost_ret (v := .tuple #[Vl.zero.v, .string sType]) (by simp [results, Tryd.results43, go_sem, sType, Vl.zero]) rfl ⟨rfl, (((Ext.refl w).alloc _).alloc _).alloc _⟩

theorem order_3 (h : Value) (a b : Vl) (w : World) : Calls Tryd.prog 43 #[h, .string ⟨#[62, 61]⟩, a.v, b.v] w fun e w' => e = .returned (.tuple #[(orV 3 a b).v, .string (orW a b)]) ∧ Ext w w' := by
  obtain ⟨k, n, s⟩ := a
  obtain ⟨k', n', s'⟩ := b
  by_cases hi : k = 2 ∧ k' = 2
  · obtain ⟨rfl, rfl⟩ := hi
    rw [(orV_int 3 ⟨2, n, s⟩ ⟨2, n', s'⟩ ⟨rfl, rfl⟩).1, (orV_int 3 ⟨2, n, s⟩ ⟨2, n', s'⟩ ⟨rfl, rfl⟩).2]
    go_enter Tryd.func43, Tryd.ntmps43
    go_wp2_with (first
      | (go_at_call 61; refine (holdsI_3 n n' _).mono ?_; rintro e w' ⟨rfl, he⟩; have he1 := (((Ext.refl w).alloc _).alloc _).alloc _ |>.trans he)
      | (go_at_call 32; refine (bool_any _ _).mono ?_; rintro e w'' ⟨rfl, hf⟩; have he2 := he1.trans hf; have hg := he.trans hf; obtain ⟨z1, z2, z3⟩ := hg.lt3; obtain ⟨p1, p2⟩ := hg.cells))
    exact bodyPost_ret (v := .tuple #[(Vl.mk 1 (b2i (ordI 3 n n')) sNone).v, .string sNone]) (by simp [results, Tryd.results43, go_sem, sNone, *]) rfl ⟨rfl, (((he2.setCell (by simp <;> omega) _).setCell (by simp <;> omega) _).setCell (by simp <;> omega) _)⟩
  by_cases hs : k = 3 ∧ k' = 3
  · obtain ⟨rfl, rfl⟩ := hs
    rw [(orV_str 3 ⟨3, n, s⟩ ⟨3, n', s'⟩ ⟨rfl, rfl⟩).1, (orV_str 3 ⟨3, n, s⟩ ⟨3, n', s'⟩ ⟨rfl, rfl⟩).2]
    clear hi
    go_enter Tryd.func43, Tryd.ntmps43
    go_wp2_with (first
      | (go_at_call 62; refine (holdsS_3 s s' _).mono ?_; rintro e w' ⟨rfl, he⟩; have he1 := (((Ext.refl w).alloc _).alloc _).alloc _ |>.trans he)
      | (go_at_call 32; refine (bool_any _ _).mono ?_; rintro e w'' ⟨rfl, hf⟩; have he2 := he1.trans hf; have hg := he.trans hf; obtain ⟨z1, z2, z3⟩ := hg.lt3; obtain ⟨p1, p2⟩ := hg.cells))
    exact bodyPost_ret (v := .tuple #[(Vl.mk 1 (b2i (ordS 3 s s')) sNone).v, .string sNone]) (by simp [results, Tryd.results43, go_sem, sNone, *]) rfl ⟨rfl, (((he2.setCell (by simp <;> omega) _).setCell (by simp <;> omega) _).setCell (by simp <;> omega) _)⟩
  · rw [(orV_no 3 ⟨k, n, s⟩ ⟨k', n', s'⟩ hi hs).1, (orV_no 3 ⟨k, n, s⟩ ⟨k', n', s'⟩ hi hs).2]
    have q1 : ((k == 2) = true → (k' == 2) = false) := by simpa using hi
    have q2 : ((k == 3) = true → (k' == 3) = false) := by simpa using hs
    cases e1 : (k == 2) <;> cases e2 : (k == 3) <;> cases e3 : (k' == 2) <;> cases e4 : (k' == 3) <;> simp only [e1, e2, e3, e4, true_implies, false_implies, Bool.true_eq_false, Bool.false_eq_true] at q1 q2
    all_goals (clear hi hs)
    all_goals go_enter Tryd.func43, Tryd.ntmps43
    all_goals go_wp2_with fail
    all_goals exact bodyPost_ret (v := .tuple #[Vl.zero.v, .string sType]) (by simp [results, Tryd.results43, go_sem, sType, Vl.zero]) rfl ⟨rfl, (((Ext.refl w).alloc _).alloc _).alloc _⟩
end Go.Proofs.YtidjibghicejaaaDoor
