/- What an operator makes of two values (P14.2). -/
import Derived.Test.YtidjibghicejaaaDoorValM
import Derived.Test.YtidjibghicejaaaDoorValN
import Derived.Test.YtidjibghicejaaaDoorValO
namespace Go.Proofs.YtidjibghicejaaaDoor
open Go.RowKit
set_option linter.unusedVariables false

/-- What the operator of a number (+ - * / % < <= > >= == ~= ..) makes of two values, what is refused, what cells are taken. -/
def opR (i : Nat) (c sp : Int) (a b : Vl) : Vl × ByteArray × Int :=
  match i with
  | 0 => (arV 43 a b, arW 43 a b, sp)
  | 1 => (arV 45 a b, arW 45 a b, sp)
  | 2 => (arV 42 a b, arW 42 a b, sp)
  | 3 => (arV 47 a b, arW 47 a b, sp)
  | 4 => (arV 37 a b, arW 37 a b, sp)
  | 5 => (orV 0 a b, orW a b, sp)
  | 6 => (orV 1 a b, orW a b, sp)
  | 7 => (orV 2 a b, orW a b, sp)
  | 8 => (orV 3 a b, orW a b, sp)
  | 9 => (saV true a b, sNone, sp)
  | 10 => (saV false a b, sNone, sp)
  | _ => (joV c sp a b, joW c sp a b, joC c sp a b)
def opA (i : Nat) (c sp : Int) (a b : Vl) : Vl × ByteArray × Int := if a.ck && b.ck then opR i c sp a b else (.zero, sType, sp)
theorem opA_yes {a b : Vl} (h : a.ck = true) (h' : b.ck = true) (i : Nat) (c sp : Int) : opA i c sp a b = opR i c sp a b := by simp [opA, h, h']
theorem opA_no1 {a b : Vl} (h : a.ck = false) (i : Nat) (c sp : Int) : opA i c sp a b = (.zero, sType, sp) := by simp [opA, h]
theorem opA_no2 {a b : Vl} (h' : b.ck = false) (i : Nat) (c sp : Int) : opA i c sp a b = (.zero, sType, sp) := by simp [opA, h']
theorem run_lookup_ok {P : Program} {T K E : TypeId} {kind : TypeDesc} (hT : P.underlying T = some (.map K E)) (hK : P.underlying K = some kind) (hk : plainKind kind = true) (l : List (Value × Value)) (n r : Nat) (k v : Value) {w : World} (hb : w.heap[r]? = some (.map (ents l 0).toArray n)) (h : under kind k l = some v) :
    (Instr.lookup T (.map (some r)) k true).run P w = .ok (.tuple #[v, .bool true]) w := run_lookup_lit hT hK hk l n r k v hb h true

theorem ck_any (a : Vl) (v : Bool) (h : a.ck = v) (w : World) : Calls Tryd.prog 26 #[a.v] w fun e w' => e = .returned (.bool v) ∧ Ext w w' := by
  subst h; exact check_any a.k a.n a.s w

theorem op_0 (g : Nat) (tv : Value) (c sp : Int) (a b : Vl) (w : World) (h : HB w g tv c sp) (hs : 0 ≤ sp) (hc : sp ≤ c) (hc' : c ≤ 4611686018427387903) (ht : Pow w) (fa : Fits a) (fb : Fits b) :
    Calls Tryd.prog 11 #[.pointer (some ⟨g, 0, none⟩), .string ⟨#[43]⟩, a.v, b.v] w fun e w' => e = .returned (.tuple #[(opA 0 c sp a b).1.v, .string (opA 0 c sp a b).2.1]) ∧ Only g w w' ∧ HB w' g tv c (opA 0 c sp a b).2.2 := by
  have hk0 : ¬ w.heap.size = g := by have := h.lt; omega
  have hk1 : ¬ w.heap.size + 1 = g := by have := h.lt; omega
  have hk2 : ¬ w.heap.size + 2 = g := by have := h.lt; omega
  have h3 := (((Ext.refl w).alloc (.cells #[.int .i64 a.k, .int .i64 a.n, .string a.s] 24)).alloc (.cells #[.int .i64 b.k, .int .i64 b.n, .string b.s] 24)).alloc (.cells #[.int .i64 0, .int .i64 0, .string ⟨#[]⟩] 24)
  cases ca : a.ck
  · rw [opA_no1 ca]
    go_enter Tryd.func11, Tryd.ntmps11
    go_wp2_with fail
    refine (operators_any _).mono ?_
    rintro e w1 ⟨rfl, hw1⟩
    have k1 : Ext _ w1 := hw1 ▸ (Ext.refl _).alloc _
    have hm := (congrArg (fun x : World => x.heap[_]?) hw1).trans (heap_alloc_new _ _)
    have lk := run_lookup_ok Tryd.underlying64 Tryd.underlying9 rfl opsL 12 _ (.string ⟨#[43]⟩) (.func (.func 42) #[] #[]) hm rfl
    clear hw1 hm
    obtain ⟨z1, z2, z3⟩ := k1.lt3
    obtain ⟨p1, p2⟩ := k1.cells
    simp only [size_alloc] at lk
    go_wp2_with fail
    refine (ck_any a false ca _).mono ?_
    rintro e w2 ⟨rfl, he⟩
    have k2 := k1.trans he
    clear z1 z2 z3 p1 p2 he
    obtain ⟨z1, z2, z3⟩ := k2.lt3
    obtain ⟨p1, p2⟩ := k2.cells
    go_wp2_with fail
    exact bodyPost_ret (v := .tuple #[Vl.zero.v, .string sType]) (by simp [results, Tryd.results11, go_sem, sType, Vl.zero, *]) rfl ⟨rfl, (((Only.of_ext (h3.trans k2)).setCell (.inr (by simp <;> omega)) _).setCell (.inr (by simp <;> omega)) _).setCell (.inr (by simp <;> omega)) _, (((h.ext (h3.trans k2)).far (by simp <;> omega) _).far (by simp <;> omega) _).far (by simp <;> omega) _⟩
  cases cb : b.ck
  · rw [opA_no2 cb]
    go_enter Tryd.func11, Tryd.ntmps11
    go_wp2_with fail
    refine (operators_any _).mono ?_
    rintro e w1 ⟨rfl, hw1⟩
    have k1 : Ext _ w1 := hw1 ▸ (Ext.refl _).alloc _
    have hm := (congrArg (fun x : World => x.heap[_]?) hw1).trans (heap_alloc_new _ _)
    have lk := run_lookup_ok Tryd.underlying64 Tryd.underlying9 rfl opsL 12 _ (.string ⟨#[43]⟩) (.func (.func 42) #[] #[]) hm rfl
    clear hw1 hm
    obtain ⟨z1, z2, z3⟩ := k1.lt3
    obtain ⟨p1, p2⟩ := k1.cells
    simp only [size_alloc] at lk
    go_wp2_with fail
    refine (ck_any a true ca _).mono ?_
    rintro e w2 ⟨rfl, he⟩
    have k2 := k1.trans he
    clear z1 z2 z3 p1 p2 he
    obtain ⟨z1, z2, z3⟩ := k2.lt3
    obtain ⟨p1, p2⟩ := k2.cells
    go_wp2_with fail
    refine (ck_any b false cb _).mono ?_
    rintro e w3 ⟨rfl, he⟩
    have k3 := k2.trans he
    clear z1 z2 z3 p1 p2 he
    obtain ⟨z1, z2, z3⟩ := k3.lt3
    obtain ⟨p1, p2⟩ := k3.cells
    go_wp2_with fail
    exact bodyPost_ret (v := .tuple #[Vl.zero.v, .string sType]) (by simp [results, Tryd.results11, go_sem, sType, Vl.zero, *]) rfl ⟨rfl, (((Only.of_ext (h3.trans k3)).setCell (.inr (by simp <;> omega)) _).setCell (.inr (by simp <;> omega)) _).setCell (.inr (by simp <;> omega)) _, (((h.ext (h3.trans k3)).far (by simp <;> omega) _).far (by simp <;> omega) _).far (by simp <;> omega) _⟩
  · rw [opA_yes ca cb]
    go_enter Tryd.func11, Tryd.ntmps11
    go_wp2_with fail
    refine (operators_any _).mono ?_
    rintro e w1 ⟨rfl, hw1⟩
    have k1 : Ext _ w1 := hw1 ▸ (Ext.refl _).alloc _
    have hm := (congrArg (fun x : World => x.heap[_]?) hw1).trans (heap_alloc_new _ _)
    have lk := run_lookup_ok Tryd.underlying64 Tryd.underlying9 rfl opsL 12 _ (.string ⟨#[43]⟩) (.func (.func 42) #[] #[]) hm rfl
    clear hw1 hm
    obtain ⟨z1, z2, z3⟩ := k1.lt3
    obtain ⟨p1, p2⟩ := k1.cells
    simp only [size_alloc] at lk
    go_wp2_with fail
    refine (ck_any a true ca _).mono ?_
    rintro e w2 ⟨rfl, he⟩
    have k2 := k1.trans he
    clear z1 z2 z3 p1 p2 he
    obtain ⟨z1, z2, z3⟩ := k2.lt3
    obtain ⟨p1, p2⟩ := k2.cells
    go_wp2_with fail
    refine (ck_any b true cb _).mono ?_
    rintro e w3 ⟨rfl, he⟩
    have k3 := k2.trans he
    clear z1 z2 z3 p1 p2 he
    obtain ⟨z1, z2, z3⟩ := k3.lt3
    obtain ⟨p1, p2⟩ := k3.cells
    go_wp2_with fail
    refine (arith_plus _ a b _ fa fb).mono ?_
    rintro e w4 ⟨rfl, he⟩
    have k4 := k3.trans he
    clear z1 z2 z3 p1 p2 he
    obtain ⟨z1, z2, z3⟩ := k4.lt3
    obtain ⟨p1, p2⟩ := k4.cells
    go_wp2_with fail
    exact bodyPost_ret (v := .tuple #[(arV 43 a b).v, .string (arW 43 a b)]) (by simp [results, Tryd.results11, go_sem, *]) rfl ⟨rfl, (((Only.of_ext (h3.trans k4)).setCell (.inr (by simp <;> omega)) _).setCell (.inr (by simp <;> omega)) _).setCell (.inr (by simp <;> omega)) _, (((h.ext (h3.trans k4)).far (by simp <;> omega) _).far (by simp <;> omega) _).far (by simp <;> omega) _⟩

theorem op_11 (g : Nat) (tv : Value) (c sp : Int) (a b : Vl) (w : World) (h : HB w g tv c sp) (hs : 0 ≤ sp) (hc : sp ≤ c) (hc' : c ≤ 4611686018427387903) (ht : Pow w) (fa : Fits a) (fb : Fits b) :
    Calls Tryd.prog 11 #[.pointer (some ⟨g, 0, none⟩), .string ⟨#[46, 46]⟩, a.v, b.v] w fun e w' => e = .returned (.tuple #[(opA 11 c sp a b).1.v, .string (opA 11 c sp a b).2.1]) ∧ Only g w w' ∧ HB w' g tv c (opA 11 c sp a b).2.2 := by
  have hk0 : ¬ w.heap.size = g := by have := h.lt; omega
  have hk1 : ¬ w.heap.size + 1 = g := by have := h.lt; omega
  have hk2 : ¬ w.heap.size + 2 = g := by have := h.lt; omega
  have h3 := (((Ext.refl w).alloc (.cells #[.int .i64 a.k, .int .i64 a.n, .string a.s] 24)).alloc (.cells #[.int .i64 b.k, .int .i64 b.n, .string b.s] 24)).alloc (.cells #[.int .i64 0, .int .i64 0, .string ⟨#[]⟩] 24)
  cases ca : a.ck
  · rw [opA_no1 ca]
    go_enter Tryd.func11, Tryd.ntmps11
    go_wp2_with fail
    refine (operators_any _).mono ?_
    rintro e w1 ⟨rfl, hw1⟩
    have k1 : Ext _ w1 := hw1 ▸ (Ext.refl _).alloc _
    have hm := (congrArg (fun x : World => x.heap[_]?) hw1).trans (heap_alloc_new _ _)
    have lk := run_lookup_ok Tryd.underlying64 Tryd.underlying9 rfl opsL 12 _ (.string ⟨#[46, 46]⟩) (.func (.func 45) #[] #[]) hm rfl
    clear hw1 hm
    obtain ⟨z1, z2, z3⟩ := k1.lt3
    obtain ⟨p1, p2⟩ := k1.cells
    simp only [size_alloc] at lk
    go_wp2_with fail
    refine (ck_any a false ca _).mono ?_
    rintro e w2 ⟨rfl, he⟩
    have k2 := k1.trans he
    clear z1 z2 z3 p1 p2 he
    obtain ⟨z1, z2, z3⟩ := k2.lt3
    obtain ⟨p1, p2⟩ := k2.cells
    go_wp2_with fail
    exact bodyPost_ret (v := .tuple #[Vl.zero.v, .string sType]) (by simp [results, Tryd.results11, go_sem, sType, Vl.zero, *]) rfl ⟨rfl, (((Only.of_ext (h3.trans k2)).setCell (.inr (by simp <;> omega)) _).setCell (.inr (by simp <;> omega)) _).setCell (.inr (by simp <;> omega)) _, (((h.ext (h3.trans k2)).far (by simp <;> omega) _).far (by simp <;> omega) _).far (by simp <;> omega) _⟩
  cases cb : b.ck
  · rw [opA_no2 cb]
    go_enter Tryd.func11, Tryd.ntmps11
    go_wp2_with fail
    refine (operators_any _).mono ?_
    rintro e w1 ⟨rfl, hw1⟩
    have k1 : Ext _ w1 := hw1 ▸ (Ext.refl _).alloc _
    have hm := (congrArg (fun x : World => x.heap[_]?) hw1).trans (heap_alloc_new _ _)
    have lk := run_lookup_ok Tryd.underlying64 Tryd.underlying9 rfl opsL 12 _ (.string ⟨#[46, 46]⟩) (.func (.func 45) #[] #[]) hm rfl
    clear hw1 hm
    obtain ⟨z1, z2, z3⟩ := k1.lt3
    obtain ⟨p1, p2⟩ := k1.cells
    simp only [size_alloc] at lk
    go_wp2_with fail
    refine (ck_any a true ca _).mono ?_
    rintro e w2 ⟨rfl, he⟩
    have k2 := k1.trans he
    clear z1 z2 z3 p1 p2 he
    obtain ⟨z1, z2, z3⟩ := k2.lt3
    obtain ⟨p1, p2⟩ := k2.cells
    go_wp2_with fail
    refine (ck_any b false cb _).mono ?_
    rintro e w3 ⟨rfl, he⟩
    have k3 := k2.trans he
    clear z1 z2 z3 p1 p2 he
    obtain ⟨z1, z2, z3⟩ := k3.lt3
    obtain ⟨p1, p2⟩ := k3.cells
    go_wp2_with fail
    exact bodyPost_ret (v := .tuple #[Vl.zero.v, .string sType]) (by simp [results, Tryd.results11, go_sem, sType, Vl.zero, *]) rfl ⟨rfl, (((Only.of_ext (h3.trans k3)).setCell (.inr (by simp <;> omega)) _).setCell (.inr (by simp <;> omega)) _).setCell (.inr (by simp <;> omega)) _, (((h.ext (h3.trans k3)).far (by simp <;> omega) _).far (by simp <;> omega) _).far (by simp <;> omega) _⟩
  · rw [opA_yes ca cb]
    go_enter Tryd.func11, Tryd.ntmps11
    go_wp2_with fail
    refine (operators_any _).mono ?_
    rintro e w1 ⟨rfl, hw1⟩
    have k1 : Ext _ w1 := hw1 ▸ (Ext.refl _).alloc _
    have hm := (congrArg (fun x : World => x.heap[_]?) hw1).trans (heap_alloc_new _ _)
    have lk := run_lookup_ok Tryd.underlying64 Tryd.underlying9 rfl opsL 12 _ (.string ⟨#[46, 46]⟩) (.func (.func 45) #[] #[]) hm rfl
    clear hw1 hm
    obtain ⟨z1, z2, z3⟩ := k1.lt3
    obtain ⟨p1, p2⟩ := k1.cells
    simp only [size_alloc] at lk
    go_wp2_with fail
    refine (ck_any a true ca _).mono ?_
    rintro e w2 ⟨rfl, he⟩
    have k2 := k1.trans he
    clear z1 z2 z3 p1 p2 he
    obtain ⟨z1, z2, z3⟩ := k2.lt3
    obtain ⟨p1, p2⟩ := k2.cells
    go_wp2_with fail
    refine (ck_any b true cb _).mono ?_
    rintro e w3 ⟨rfl, he⟩
    have k3 := k2.trans he
    clear z1 z2 z3 p1 p2 he
    obtain ⟨z1, z2, z3⟩ := k3.lt3
    obtain ⟨p1, p2⟩ := k3.cells
    go_wp2_with fail
    refine (join_any g tv c sp _ a b _ (h.ext (h3.trans k3)) hs hc hc' (ht.ext (h3.trans k3)) fa fb).mono ?_
    rintro e w4 ⟨rfl, ho, hb⟩
    obtain ⟨q1, q2⟩ := ho.cells
    go_wp2_with fail
    exact bodyPost_ret (v := .tuple #[(joV c sp a b).v, .string (joW c sp a b)]) (by simp [results, Tryd.results11, go_sem, *]) rfl ⟨rfl, ((((Only.of_ext (h3.trans k3)).trans ho).setCell (.inr (by simp <;> omega)) _).setCell (.inr (by simp <;> omega)) _).setCell (.inr (by simp <;> omega)) _, (((hb).far (by simp <;> omega) _).far (by simp <;> omega) _).far (by simp <;> omega) _⟩
end Go.Proofs.YtidjibghicejaaaDoor
