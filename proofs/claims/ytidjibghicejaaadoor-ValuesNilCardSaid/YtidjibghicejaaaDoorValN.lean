/- Two values are the same, or not; two are joined. -/
import Derived.Test.YtidjibghicejaaaDoorValL
import Derived.Lib.ItoaLen
namespace Go.Proofs.YtidjibghicejaaaDoor
open Go.RowKit
set_option linter.unusedVariables false

theorem same_eq (h : Value) (a b : Vl) (w : World) : Calls Tryd.prog 44 #[h, .string ⟨#[61, 61]⟩, a.v, b.v] w fun e w' => e = .returned (.tuple #[(saV true a b).v, .string sNone]) ∧ Ext w w' := by
  go_enter Tryd.func44, Tryd.ntmps44
  go_wp2_with (first
    | (go_at_call 63; refine (same_any a b _).mono ?_; rintro e w' ⟨rfl, he⟩; have he1 := (((Ext.refl w).alloc _).alloc _).alloc _ |>.trans he)
    | (go_at_call 32; refine (bool_any _ _).mono ?_; rintro e w'' ⟨rfl, hf⟩; have he2 := he1.trans hf; have hg := he.trans hf; obtain ⟨z1, z2, z3⟩ := hg.lt3; obtain ⟨p1, p2⟩ := hg.cells))
  exact bodyPost_ret (v := .tuple #[(Vl.mk 1 (b2i (sameB a b == true)) sNone).v, .string sNone]) (by simp [results, Tryd.results44, go_sem, sNone, *]) rfl ⟨rfl, (((he2.setCell (by simp <;> omega) _).setCell (by simp <;> omega) _).setCell (by simp <;> omega) _)⟩

theorem same_ne (h : Value) (a b : Vl) (w : World) : Calls Tryd.prog 44 #[h, .string ⟨#[126, 61]⟩, a.v, b.v] w fun e w' => e = .returned (.tuple #[(saV false a b).v, .string sNone]) ∧ Ext w w' := by
  go_enter Tryd.func44, Tryd.ntmps44
  go_wp2_with (first
    | (go_at_call 63; refine (same_any a b _).mono ?_; rintro e w' ⟨rfl, he⟩; have he1 := (((Ext.refl w).alloc _).alloc _).alloc _ |>.trans he)
    | (go_at_call 32; refine (bool_any _ _).mono ?_; rintro e w'' ⟨rfl, hf⟩; have he2 := he1.trans hf; have hg := he.trans hf; obtain ⟨z1, z2, z3⟩ := hg.lt3; obtain ⟨p1, p2⟩ := hg.cells))
  exact bodyPost_ret (v := .tuple #[(Vl.mk 1 (b2i (sameB a b == false)) sNone).v, .string sNone]) (by simp [results, Tryd.results44, go_sem, sNone, *]) rfl ⟨rfl, (((he2.setCell (by simp <;> omega) _).setCell (by simp <;> omega) _).setCell (by simp <;> omega) _)⟩

theorem joinS_len {a : Vl} (f : Fits a) : (joinS a).size ≤ 1048576 := by
  unfold joinS
  split
  · exact f.sz
  · split
    · have := Lib.itoa_length_le a.n f.lo f.hi
      show (Lib.itoa a.n).toArray.size ≤ _
      simp; omega
    · show (0 : Nat) ≤ _; omega
/-- Two are joined: what is told, and how many cells are taken then. -/
def joV (c sp : Int) (a b : Vl) : Vl := if joinB a && joinB b then mkV c sp (joinS a ++ joinS b) else .zero
def joW (c sp : Int) (a b : Vl) : ByteArray := if joinB a && joinB b then mkW c sp (joinS a ++ joinS b) else sType
def joC (c sp : Int) (a b : Vl) : Int := if joinB a && joinB b then mkC c sp (joinS a ++ joinS b) else sp

theorem join_any (g : Nat) (tv : Value) (c sp : Int) (op : Value) (a b : Vl) (w : World) (h : HB w g tv c sp) (hs : 0 ≤ sp) (hc : sp ≤ c) (hc' : c ≤ 4611686018427387903) (ht : Pow w) (fa : Fits a) (fb : Fits b) :
    Calls Tryd.prog 45 #[.pointer (some ⟨g, 0, none⟩), op, a.v, b.v] w fun e w' => e = .returned (.tuple #[(joV c sp a b).v, .string (joW c sp a b)]) ∧ Only g w w' ∧ HB w' g tv c (joC c sp a b) := by
  have la := joinS_len fa
  have lb := joinS_len fb
  have hz : (joinS a ++ joinS b).size ≤ 9223372036854775807 := by rw [ByteArray.size_append]; omega
  have hsum : (joinS a).size + (joinS b).size ≤ 9223372036854775807 := by omega
  have h3 := (((Ext.refl w).alloc (.cells #[.int .i64 a.k, .int .i64 a.n, .string a.s] 24)).alloc (.cells #[.int .i64 b.k, .int .i64 b.n, .string b.s] 24)).alloc (.cells #[.int .i64 0, .int .i64 0, .string ⟨#[]⟩] 24)
  cases ja : joinB a <;> cases jb : joinB b
  all_goals (have e1 : joV c sp a b = if joinB a && joinB b then mkV c sp (joinS a ++ joinS b) else .zero := rfl; have e2 : joW c sp a b = if joinB a && joinB b then mkW c sp (joinS a ++ joinS b) else sType := rfl; have e3 : joC c sp a b = if joinB a && joinB b then mkC c sp (joinS a ++ joinS b) else sp := rfl; simp only [ja, jb, Bool.and_true, Bool.and_false, Bool.false_eq_true, if_true, if_false] at e1 e2 e3; rw [e1, e2, e3]; clear e1 e2 e3)
  all_goals go_enter Tryd.func45, Tryd.ntmps45
  all_goals go_wp2_with fail
  all_goals (refine (joined_any a _ (ht.ext h3) fa.lo fa.hi).mono ?_; rintro e w1 ⟨rfl, k1⟩; rw [ja]; have j1 := h3.trans k1; obtain ⟨z1, z2, z3⟩ := k1.lt3; obtain ⟨p1, p2⟩ := k1.cells)
  all_goals go_wp2_with fail
  all_goals (refine (joined_any b _ (ht.ext j1) fb.lo fb.hi).mono ?_; rintro e w2 ⟨rfl, k2⟩; rw [jb]; have j2 := j1.trans k2; have hg := k1.trans k2; clear p1 p2 z1 z2 z3; obtain ⟨z1, z2, z3⟩ := hg.lt3; obtain ⟨p1, p2⟩ := hg.cells)
  all_goals (have hk0 : ¬ w.heap.size = g := by have := h.lt; omega)
  all_goals (have hk1 : ¬ w.heap.size + 1 = g := by have := h.lt; omega)
  all_goals (have hk2 : ¬ w.heap.size + 2 = g := by have := h.lt; omega)
  all_goals go_wp2_with fail
  rotate_right
  · refine (make_any g tv c sp _ _ (h.ext j2) hs hc hc' hz).mono ?_
    rintro e w3 ⟨rfl, ho, hb⟩
    obtain ⟨o1, o2⟩ := ho.cells
    go_wp2_with fail
    exact bodyPost_ret (v := .tuple #[(mkV c sp (joinS a ++ joinS b)).v, .string (mkW c sp (joinS a ++ joinS b))]) (by simp [results, Tryd.results45, go_sem, *]) rfl
      ⟨rfl, (((((Only.of_ext j2).trans ho).setCell (.inr (by simp <;> omega)) _).setCell (.inr (by simp <;> omega)) _).setCell (.inr (by simp <;> omega)) _), ((hb.far (by simp <;> omega) _).far (by simp <;> omega) _).far (by simp <;> omega) _⟩
  all_goals exact bodyPost_ret (v := .tuple #[Vl.zero.v, .string sType]) (by simp [results, Tryd.results45, go_sem, sType, Vl.zero, *]) rfl ⟨rfl, ((((Only.of_ext j2).setCell (.inr (by simp <;> omega)) _).setCell (.inr (by simp <;> omega)) _).setCell (.inr (by simp <;> omega)) _), (((h.ext j2).far (by simp <;> omega) _).far (by simp <;> omega) _).far (by simp <;> omega) _⟩
end Go.Proofs.YtidjibghicejaaaDoor
