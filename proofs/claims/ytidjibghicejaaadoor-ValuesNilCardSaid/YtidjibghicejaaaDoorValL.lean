/- What the operators' functions make of two values. -/
import Derived.Test.YtidjibghicejaaaDoorValJ
import Derived.Test.YtidjibghicejaaaDoorValK
namespace Go.Proofs.YtidjibghicejaaaDoor
open Go.RowKit
set_option linter.unusedVariables false

/-- Numbers and texts as the machine holds them: what a value's parts are bounded by. -/
structure Fits (a : Vl) : Prop where
  lo : -9223372036854775808 ≤ a.n
  hi : a.n ≤ 9223372036854775807
  sz : a.s.size ≤ 1048576

def arV (o : Nat) (a b : Vl) : Vl := if a.k = 2 ∧ b.k = 2 then numV o a.n b.n else .zero
def arW (o : Nat) (a b : Vl) : ByteArray := if a.k = 2 ∧ b.k = 2 then numW o a.n b.n else sType
def orV (o : Nat) (a b : Vl) : Vl := if a.k = 2 ∧ b.k = 2 then ⟨1, b2i (ordI o a.n b.n), sNone⟩ else if a.k = 3 ∧ b.k = 3 then ⟨1, b2i (ordS o a.s b.s), sNone⟩ else .zero
def orW (a b : Vl) : ByteArray := if a.k = 2 ∧ b.k = 2 then sNone else if a.k = 3 ∧ b.k = 3 then sNone else sType
def saV (e : Bool) (a b : Vl) : Vl := ⟨1, b2i (sameB a b == e), sNone⟩
theorem arV_yes (o : Nat) (a b : Vl) (h : a.k = 2 ∧ b.k = 2) : arV o a b = numV o a.n b.n ∧ arW o a b = numW o a.n b.n := by simp [arV, arW, h]
theorem arV_no (o : Nat) (a b : Vl) (h : ¬ (a.k = 2 ∧ b.k = 2)) : arV o a b = .zero ∧ arW o a b = sType := by simp only [arV, arW, if_neg h, and_self]

theorem arith_plus (h : Value) (a b : Vl) (w : World) (fa : Fits a) (fb : Fits b) : Calls Tryd.prog 42 #[h, .string ⟨#[43]⟩, a.v, b.v] w fun e w' => e = .returned (.tuple #[(arV 43 a b).v, .string (arW 43 a b)]) ∧ Ext w w' := by
  obtain ⟨k, n, s⟩ := a
  obtain ⟨k', n', s'⟩ := b
  obtain ⟨a1, a2, a3⟩ := fa
  obtain ⟨b1, b2, b3⟩ := fb
  by_cases hk : k = 2
  · by_cases hk' : k' = 2
    · subst hk; subst hk'
      rw [(arV_yes 43 _ _ ⟨rfl, rfl⟩).1, (arV_yes 43 _ _ ⟨rfl, rfl⟩).2]
      go_enter Tryd.func42, Tryd.ntmps42
      go_wp2_with (first
        | (go_at_call 60; refine (num_plus n n' _ a1 a2 b1 b2).mono ?_; rintro e w' ⟨rfl, he⟩; obtain ⟨z1, z2, z3⟩ := he.lt3; obtain ⟨p1, p2⟩ := he.cells))
      exact bodyPost_ret (v := .tuple #[(numV 43 n n').v, .string (numW 43 n n')]) (by simp [results, Tryd.results42, go_sem, *]) rfl ⟨rfl, ((((((((Ext.refl w).alloc _).alloc _).alloc _).trans he).setCell (by simp <;> omega) _).setCell (by simp <;> omega) _).setCell (by simp <;> omega) _)⟩
    · have hb : (k' == 2) = false := by simp [hk']
      subst hk
      rw [(arV_no 43 ⟨2, n, s⟩ ⟨k', n', s'⟩ (fun h => hk' h.2)).1, (arV_no 43 ⟨2, n, s⟩ ⟨k', n', s'⟩ (fun h => hk' h.2)).2]
      go_enter Tryd.func42, Tryd.ntmps42
      go_wp2_with fail
      exact bodyPost_ret (v := .tuple #[Vl.zero.v, .string sType]) (by simp [results, Tryd.results42, go_sem, sType, Vl.zero]) rfl ⟨rfl, (((Ext.refl w).alloc _).alloc _).alloc _⟩
  · have hb : (k == 2) = false := by simp [hk]
    rw [(arV_no 43 ⟨k, n, s⟩ ⟨k', n', s'⟩ (fun h => hk h.1)).1, (arV_no 43 ⟨k, n, s⟩ ⟨k', n', s'⟩ (fun h => hk h.1)).2]
    go_enter Tryd.func42, Tryd.ntmps42
    go_wp2_with fail
    exact bodyPost_ret (v := .tuple #[Vl.zero.v, .string sType]) (by simp [results, Tryd.results42, go_sem, sType, Vl.zero]) rfl ⟨rfl, (((Ext.refl w).alloc _).alloc _).alloc _⟩

theorem arith_minus (h : Value) (a b : Vl) (w : World) (fa : Fits a) (fb : Fits b) : Calls Tryd.prog 42 #[h, .string ⟨#[45]⟩, a.v, b.v] w fun e w' => e = .returned (.tuple #[(arV 45 a b).v, .string (arW 45 a b)]) ∧ Ext w w' := by
  obtain ⟨k, n, s⟩ := a
  obtain ⟨k', n', s'⟩ := b
  obtain ⟨a1, a2, a3⟩ := fa
  obtain ⟨b1, b2, b3⟩ := fb
  by_cases hk : k = 2
  · by_cases hk' : k' = 2
    · subst hk; subst hk'
      rw [(arV_yes 45 _ _ ⟨rfl, rfl⟩).1, (arV_yes 45 _ _ ⟨rfl, rfl⟩).2]
      go_enter Tryd.func42, Tryd.ntmps42
      go_wp2_with (first
        | (go_at_call 60; refine (num_minus n n' _ a1 a2 b1 b2).mono ?_; rintro e w' ⟨rfl, he⟩; obtain ⟨z1, z2, z3⟩ := he.lt3; obtain ⟨p1, p2⟩ := he.cells))
      exact bodyPost_ret (v := .tuple #[(numV 45 n n').v, .string (numW 45 n n')]) (by simp [results, Tryd.results42, go_sem, *]) rfl ⟨rfl, ((((((((Ext.refl w).alloc _).alloc _).alloc _).trans he).setCell (by simp <;> omega) _).setCell (by simp <;> omega) _).setCell (by simp <;> omega) _)⟩
    · have hb : (k' == 2) = false := by simp [hk']
      subst hk
      rw [(arV_no 45 ⟨2, n, s⟩ ⟨k', n', s'⟩ (fun h => hk' h.2)).1, (arV_no 45 ⟨2, n, s⟩ ⟨k', n', s'⟩ (fun h => hk' h.2)).2]
      go_enter Tryd.func42, Tryd.ntmps42
      go_wp2_with fail
      exact bodyPost_ret (v := .tuple #[Vl.zero.v, .string sType]) (by simp [results, Tryd.results42, go_sem, sType, Vl.zero]) rfl ⟨rfl, (((Ext.refl w).alloc _).alloc _).alloc _⟩
  · have hb : (k == 2) = false := by simp [hk]
    rw [(arV_no 45 ⟨k, n, s⟩ ⟨k', n', s'⟩ (fun h => hk h.1)).1, (arV_no 45 ⟨k, n, s⟩ ⟨k', n', s'⟩ (fun h => hk h.1)).2]
    go_enter Tryd.func42, Tryd.ntmps42
    go_wp2_with fail
    exact bodyPost_ret (v := .tuple #[Vl.zero.v, .string sType]) (by simp [results, Tryd.results42, go_sem, sType, Vl.zero]) rfl ⟨rfl, (((Ext.refl w).alloc _).alloc _).alloc _⟩

theorem arith_times (h : Value) (a b : Vl) (w : World) (fa : Fits a) (fb : Fits b) : Calls Tryd.prog 42 #[h, .string ⟨#[42]⟩, a.v, b.v] w fun e w' => e = .returned (.tuple #[(arV 42 a b).v, .string (arW 42 a b)]) ∧ Ext w w' := by
  obtain ⟨k, n, s⟩ := a
  obtain ⟨k', n', s'⟩ := b
  obtain ⟨a1, a2, a3⟩ := fa
  obtain ⟨b1, b2, b3⟩ := fb
  by_cases hk : k = 2
  · by_cases hk' : k' = 2
    · subst hk; subst hk'
      rw [(arV_yes 42 _ _ ⟨rfl, rfl⟩).1, (arV_yes 42 _ _ ⟨rfl, rfl⟩).2]
      go_enter Tryd.func42, Tryd.ntmps42
      go_wp2_with (first
        | (go_at_call 60; refine (num_times n n' _ a1 a2 b1 b2).mono ?_; rintro e w' ⟨rfl, he⟩; obtain ⟨z1, z2, z3⟩ := he.lt3; obtain ⟨p1, p2⟩ := he.cells))
      exact bodyPost_ret (v := .tuple #[(numV 42 n n').v, .string (numW 42 n n')]) (by simp [results, Tryd.results42, go_sem, *]) rfl ⟨rfl, ((((((((Ext.refl w).alloc _).alloc _).alloc _).trans he).setCell (by simp <;> omega) _).setCell (by simp <;> omega) _).setCell (by simp <;> omega) _)⟩
    · have hb : (k' == 2) = false := by simp [hk']
      subst hk
      rw [(arV_no 42 ⟨2, n, s⟩ ⟨k', n', s'⟩ (fun h => hk' h.2)).1, (arV_no 42 ⟨2, n, s⟩ ⟨k', n', s'⟩ (fun h => hk' h.2)).2]
      go_enter Tryd.func42, Tryd.ntmps42
      go_wp2_with fail
      exact bodyPost_ret (v := .tuple #[Vl.zero.v, .string sType]) (by simp [results, Tryd.results42, go_sem, sType, Vl.zero]) rfl ⟨rfl, (((Ext.refl w).alloc _).alloc _).alloc _⟩
  · have hb : (k == 2) = false := by simp [hk]
    rw [(arV_no 42 ⟨k, n, s⟩ ⟨k', n', s'⟩ (fun h => hk h.1)).1, (arV_no 42 ⟨k, n, s⟩ ⟨k', n', s'⟩ (fun h => hk h.1)).2]
    go_enter Tryd.func42, Tryd.ntmps42
    go_wp2_with fail
    exact bodyPost_ret (v := .tuple #[Vl.zero.v, .string sType]) (by simp [results, Tryd.results42, go_sem, sType, Vl.zero]) rfl ⟨rfl, (((Ext.refl w).alloc _).alloc _).alloc _⟩

theorem arith_quo (h : Value) (a b : Vl) (w : World) (fa : Fits a) (fb : Fits b) : Calls Tryd.prog 42 #[h, .string ⟨#[47]⟩, a.v, b.v] w fun e w' => e = .returned (.tuple #[(arV 47 a b).v, .string (arW 47 a b)]) ∧ Ext w w' := by
  obtain ⟨k, n, s⟩ := a
  obtain ⟨k', n', s'⟩ := b
  obtain ⟨a1, a2, a3⟩ := fa
  obtain ⟨b1, b2, b3⟩ := fb
  by_cases hk : k = 2
  · by_cases hk' : k' = 2
    · subst hk; subst hk'
      rw [(arV_yes 47 _ _ ⟨rfl, rfl⟩).1, (arV_yes 47 _ _ ⟨rfl, rfl⟩).2]
      go_enter Tryd.func42, Tryd.ntmps42
      go_wp2_with (first
        | (go_at_call 60; refine (num_quo n n' _ a1 a2 b1 b2).mono ?_; rintro e w' ⟨rfl, he⟩; obtain ⟨z1, z2, z3⟩ := he.lt3; obtain ⟨p1, p2⟩ := he.cells))
      exact bodyPost_ret (v := .tuple #[(numV 47 n n').v, .string (numW 47 n n')]) (by simp [results, Tryd.results42, go_sem, *]) rfl ⟨rfl, ((((((((Ext.refl w).alloc _).alloc _).alloc _).trans he).setCell (by simp <;> omega) _).setCell (by simp <;> omega) _).setCell (by simp <;> omega) _)⟩
    · have hb : (k' == 2) = false := by simp [hk']
      subst hk
      rw [(arV_no 47 ⟨2, n, s⟩ ⟨k', n', s'⟩ (fun h => hk' h.2)).1, (arV_no 47 ⟨2, n, s⟩ ⟨k', n', s'⟩ (fun h => hk' h.2)).2]
      go_enter Tryd.func42, Tryd.ntmps42
      go_wp2_with fail
      exact bodyPost_ret (v := .tuple #[Vl.zero.v, .string sType]) (by simp [results, Tryd.results42, go_sem, sType, Vl.zero]) rfl ⟨rfl, (((Ext.refl w).alloc _).alloc _).alloc _⟩
  · have hb : (k == 2) = false := by simp [hk]
    rw [(arV_no 47 ⟨k, n, s⟩ ⟨k', n', s'⟩ (fun h => hk h.1)).1, (arV_no 47 ⟨k, n, s⟩ ⟨k', n', s'⟩ (fun h => hk h.1)).2]
    go_enter Tryd.func42, Tryd.ntmps42
    go_wp2_with fail
    exact bodyPost_ret (v := .tuple #[Vl.zero.v, .string sType]) (by simp [results, Tryd.results42, go_sem, sType, Vl.zero]) rfl ⟨rfl, (((Ext.refl w).alloc _).alloc _).alloc _⟩

theorem arith_rem (h : Value) (a b : Vl) (w : World) (fa : Fits a) (fb : Fits b) : Calls Tryd.prog 42 #[h, .string ⟨#[37]⟩, a.v, b.v] w fun e w' => e = .returned (.tuple #[(arV 37 a b).v, .string (arW 37 a b)]) ∧ Ext w w' := by
  obtain ⟨k, n, s⟩ := a
  obtain ⟨k', n', s'⟩ := b
  obtain ⟨a1, a2, a3⟩ := fa
  obtain ⟨b1, b2, b3⟩ := fb
  by_cases hk : k = 2
  · by_cases hk' : k' = 2
    · subst hk; subst hk'
      rw [(arV_yes 37 _ _ ⟨rfl, rfl⟩).1, (arV_yes 37 _ _ ⟨rfl, rfl⟩).2]
      go_enter Tryd.func42, Tryd.ntmps42
      go_wp2_with (first
        | (go_at_call 60; refine (num_rem n n' _ a1 a2 b1 b2).mono ?_; rintro e w' ⟨rfl, he⟩; obtain ⟨z1, z2, z3⟩ := he.lt3; obtain ⟨p1, p2⟩ := he.cells))
      exact bodyPost_ret (v := .tuple #[(numV 37 n n').v, .string (numW 37 n n')]) (by simp [results, Tryd.results42, go_sem, *]) rfl ⟨rfl, ((((((((Ext.refl w).alloc _).alloc _).alloc _).trans he).setCell (by simp <;> omega) _).setCell (by simp <;> omega) _).setCell (by simp <;> omega) _)⟩
    · have hb : (k' == 2) = false := by simp [hk']
      subst hk
      rw [(arV_no 37 ⟨2, n, s⟩ ⟨k', n', s'⟩ (fun h => hk' h.2)).1, (arV_no 37 ⟨2, n, s⟩ ⟨k', n', s'⟩ (fun h => hk' h.2)).2]
      go_enter Tryd.func42, Tryd.ntmps42
      go_wp2_with fail
      exact bodyPost_ret (v := .tuple #[Vl.zero.v, .string sType]) (by simp [results, Tryd.results42, go_sem, sType, Vl.zero]) rfl ⟨rfl, (((Ext.refl w).alloc _).alloc _).alloc _⟩
  · have hb : (k == 2) = false := by simp [hk]
    rw [(arV_no 37 ⟨k, n, s⟩ ⟨k', n', s'⟩ (fun h => hk h.1)).1, (arV_no 37 ⟨k, n, s⟩ ⟨k', n', s'⟩ (fun h => hk h.1)).2]
    go_enter Tryd.func42, Tryd.ntmps42
    go_wp2_with fail
    exact bodyPost_ret (v := .tuple #[Vl.zero.v, .string sType]) (by simp [results, Tryd.results42, go_sem, sType, Vl.zero]) rfl ⟨rfl, (((Ext.refl w).alloc _).alloc _).alloc _⟩
end Go.Proofs.YtidjibghicejaaaDoor
