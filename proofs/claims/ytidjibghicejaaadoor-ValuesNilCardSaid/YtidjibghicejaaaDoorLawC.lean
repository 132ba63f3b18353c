/- All operators. -/
import Derived.Test.YtidjibghicejaaaDoorValQ0
import Derived.Test.YtidjibghicejaaaDoorValQ1
import Derived.Test.YtidjibghicejaaaDoorValQ2
import Derived.Test.YtidjibghicejaaaDoorValQ3
import Derived.Test.YtidjibghicejaaaDoorValS1
import Derived.Test.YtidjibghicejaaaDoorValS2
import Derived.Test.YtidjibghicejaaaDoorValT5
import Derived.Test.YtidjibghicejaaaDoorValT6
import Derived.Test.YtidjibghicejaaaDoorValT7
import Derived.Test.YtidjibghicejaaaDoorValT8
import Derived.Test.YtidjibghicejaaaDoorValT9
import Derived.Test.YtidjibghicejaaaDoorValT10
import Derived.Test.YtidjibghicejaaaDoorValT11
import Derived.Test.YtidjibghicejaaaDoorValT12
namespace Go.Proofs.YtidjibghicejaaaDoor
open Go.RowKit
set_option linter.unusedVariables false
set_option linter.unusedSimpArgs false

theorem beq_data (o : ByteArray) (d : Array UInt8) : (o == (⟨d⟩ : ByteArray)) = (o.data == d) := rfl

set_option maxRecDepth 100000 in
theorem op_none (g : Nat) (tv : Value) (c sp : Int) (o : ByteArray) (a b : Vl) (w : World) (h : HB w g tv c sp) (n0 : (o.data == #[43]) = false) (n1 : (o.data == #[45]) = false) (n2 : (o.data == #[42]) = false) (n3 : (o.data == #[47]) = false) (n4 : (o.data == #[37]) = false) (n5 : (o.data == #[60]) = false) (n6 : (o.data == #[60, 61]) = false) (n7 : (o.data == #[62]) = false) (n8 : (o.data == #[62, 61]) = false) (n9 : (o.data == #[61, 61]) = false) (n10 : (o.data == #[126, 61]) = false) (n11 : (o.data == #[46, 46]) = false) :
    Calls Tryd.prog 11 #[.pointer (some ⟨g, 0, none⟩), .string o, a.v, b.v] w fun e w' => e = .returned (.tuple #[Vl.zero.v, .string sType]) ∧ Only g w w' ∧ HB w' g tv c sp := by
  have hk0 : ¬ w.heap.size = g := by have := h.lt; omega
  have hk1 : ¬ w.heap.size + 1 = g := by have := h.lt; omega
  have hk2 : ¬ w.heap.size + 2 = g := by have := h.lt; omega
  have hno : noKey .string (.string o) opsL = true := by
    simp only [noKey, opsL, List.all_cons, List.all_nil, Instr.sameNow, beq_data, n0, n1, n2, n3, n4, n5, n6, n7, n8, n9, n10, n11]
    rfl
  clear n0 n1 n2 n3 n4 n5 n6 n7 n8 n9 n10 n11
  have h3 := (((Ext.refl w).alloc (.cells #[.int .i64 a.k, .int .i64 a.n, .string a.s] 24)).alloc (.cells #[.int .i64 b.k, .int .i64 b.n, .string b.s] 24)).alloc (.cells #[.int .i64 0, .int .i64 0, .string ⟨#[]⟩] 24)
  go_enter Tryd.func11, Tryd.ntmps11
  go_wp2_with fail
  refine (operators_any _).mono ?_
  rintro e w1 ⟨rfl, hw1⟩
  have k1 : Ext _ w1 := hw1 ▸ (Ext.refl _).alloc _
  have hm := (congrArg (fun x : World => x.heap[_]?) hw1).trans (heap_alloc_new _ _)
  have lk := run_lookup_none Tryd.underlying64 Tryd.underlying9 rfl opsL 12 _ (.string o) _ rfl hm hno true
  clear hw1 hm
  obtain ⟨z1, z2, z3⟩ := k1.lt3
  obtain ⟨p1, p2⟩ := k1.cells
  simp only [size_alloc] at lk
  go_wp2_with fail
  exact bodyPost_ret (v := .tuple #[Vl.zero.v, .string sType]) (by simp [results, Tryd.results11, go_sem, sType, Vl.zero, *]) rfl ⟨rfl, (((Only.of_ext (h3.trans k1)).setCell (.inr (by simp <;> omega)) _).setCell (.inr (by simp <;> omega)) _).setCell (.inr (by simp <;> omega)) _, (((h.ext (h3.trans k1)).far (by simp <;> omega) _).far (by simp <;> omega) _).far (by simp <;> omega) _⟩

/-- What any operator makes of two values, what is refused, how many cells are taken then. -/
def opZ (o : ByteArray) (c sp : Int) (a b : Vl) : Vl × ByteArray × Int :=
  if o.data == #[43] then opA 0 c sp a b else
  if o.data == #[45] then opA 1 c sp a b else
  if o.data == #[42] then opA 2 c sp a b else
  if o.data == #[47] then opA 3 c sp a b else
  if o.data == #[37] then opA 4 c sp a b else
  if o.data == #[60] then opA 5 c sp a b else
  if o.data == #[60, 61] then opA 6 c sp a b else
  if o.data == #[62] then opA 7 c sp a b else
  if o.data == #[62, 61] then opA 8 c sp a b else
  if o.data == #[61, 61] then opA 9 c sp a b else
  if o.data == #[126, 61] then opA 10 c sp a b else
  if o.data == #[46, 46] then opA 11 c sp a b else
  (.zero, sType, sp)
theorem ne_lit {o : ByteArray} {l : List UInt8} (h : (o.data == l.toArray) = false) : (o.toList == l) = false := by
  rw [Lib.toList_data]
  cases hb : (o.data.toList == l)
  · rfl
  · have e := eq_of_beq hb
    have : o.data = l.toArray := by rw [← e]
    rw [beq_eq_false_iff_ne] at h
    exact absurd this h
theorem opZ_0 (c sp : Int) (a b : Vl) : opZ ⟨#[43]⟩ c sp a b = opA 0 c sp a b := by simp [opZ]
theorem opZ_1 (c sp : Int) (a b : Vl) : opZ ⟨#[45]⟩ c sp a b = opA 1 c sp a b := by simp [opZ]
theorem opZ_2 (c sp : Int) (a b : Vl) : opZ ⟨#[42]⟩ c sp a b = opA 2 c sp a b := by simp [opZ]
theorem opZ_3 (c sp : Int) (a b : Vl) : opZ ⟨#[47]⟩ c sp a b = opA 3 c sp a b := by simp [opZ]
theorem opZ_4 (c sp : Int) (a b : Vl) : opZ ⟨#[37]⟩ c sp a b = opA 4 c sp a b := by simp [opZ]
theorem opZ_5 (c sp : Int) (a b : Vl) : opZ ⟨#[60]⟩ c sp a b = opA 5 c sp a b := by simp [opZ]
theorem opZ_6 (c sp : Int) (a b : Vl) : opZ ⟨#[60, 61]⟩ c sp a b = opA 6 c sp a b := by simp [opZ]
theorem opZ_7 (c sp : Int) (a b : Vl) : opZ ⟨#[62]⟩ c sp a b = opA 7 c sp a b := by simp [opZ]
theorem opZ_8 (c sp : Int) (a b : Vl) : opZ ⟨#[62, 61]⟩ c sp a b = opA 8 c sp a b := by simp [opZ]
theorem opZ_9 (c sp : Int) (a b : Vl) : opZ ⟨#[61, 61]⟩ c sp a b = opA 9 c sp a b := by simp [opZ]
theorem opZ_10 (c sp : Int) (a b : Vl) : opZ ⟨#[126, 61]⟩ c sp a b = opA 10 c sp a b := by simp [opZ]
theorem opZ_11 (c sp : Int) (a b : Vl) : opZ ⟨#[46, 46]⟩ c sp a b = opA 11 c sp a b := by simp [opZ]

theorem op_all (g : Nat) (tv : Value) (c sp : Int) (o : ByteArray) (a b : Vl) (w : World) (h : HB w g tv c sp) (hs : 0 ≤ sp) (hc : sp ≤ c) (hc' : c ≤ 4611686018427387903) (ht : Pow w) (fa : Fits a) (fb : Fits b) :
    Calls Tryd.prog 11 #[.pointer (some ⟨g, 0, none⟩), .string o, a.v, b.v] w fun e w' => e = .returned (.tuple #[(opZ o c sp a b).1.v, .string (opZ o c sp a b).2.1]) ∧ Only g w w' ∧ HB w' g tv c (opZ o c sp a b).2.2 := by
  cases n0 : (o.data == #[43])
  rotate_left
  · obtain rfl : o = ⟨#[43]⟩ := ByteArray.ext (eq_of_beq n0)
    rw [opZ_0]
    exact op_0 g tv c sp a b w h hs hc hc' ht fa fb
  cases n1 : (o.data == #[45])
  rotate_left
  · obtain rfl : o = ⟨#[45]⟩ := ByteArray.ext (eq_of_beq n1)
    rw [opZ_1]
    exact op_1 g tv c sp a b w h hs hc hc' ht fa fb
  cases n2 : (o.data == #[42])
  rotate_left
  · obtain rfl : o = ⟨#[42]⟩ := ByteArray.ext (eq_of_beq n2)
    rw [opZ_2]
    exact op_2 g tv c sp a b w h hs hc hc' ht fa fb
  cases n3 : (o.data == #[47])
  rotate_left
  · obtain rfl : o = ⟨#[47]⟩ := ByteArray.ext (eq_of_beq n3)
    rw [opZ_3]
    exact op_3 g tv c sp a b w h hs hc hc' ht fa fb
  cases n4 : (o.data == #[37])
  rotate_left
  · obtain rfl : o = ⟨#[37]⟩ := ByteArray.ext (eq_of_beq n4)
    rw [opZ_4]
    exact op_4 g tv c sp a b w h hs hc hc' ht fa fb
  cases n5 : (o.data == #[60])
  rotate_left
  · obtain rfl : o = ⟨#[60]⟩ := ByteArray.ext (eq_of_beq n5)
    rw [opZ_5]
    exact op_5 g tv c sp a b w h hs hc hc' ht fa fb
  cases n6 : (o.data == #[60, 61])
  rotate_left
  · obtain rfl : o = ⟨#[60, 61]⟩ := ByteArray.ext (eq_of_beq n6)
    rw [opZ_6]
    exact op_6 g tv c sp a b w h hs hc hc' ht fa fb
  cases n7 : (o.data == #[62])
  rotate_left
  · obtain rfl : o = ⟨#[62]⟩ := ByteArray.ext (eq_of_beq n7)
    rw [opZ_7]
    exact op_7 g tv c sp a b w h hs hc hc' ht fa fb
  cases n8 : (o.data == #[62, 61])
  rotate_left
  · obtain rfl : o = ⟨#[62, 61]⟩ := ByteArray.ext (eq_of_beq n8)
    rw [opZ_8]
    exact op_8 g tv c sp a b w h hs hc hc' ht fa fb
  cases n9 : (o.data == #[61, 61])
  rotate_left
  · obtain rfl : o = ⟨#[61, 61]⟩ := ByteArray.ext (eq_of_beq n9)
    rw [opZ_9]
    exact op_9 g tv c sp a b w h hs hc hc' ht fa fb
  cases n10 : (o.data == #[126, 61])
  rotate_left
  · obtain rfl : o = ⟨#[126, 61]⟩ := ByteArray.ext (eq_of_beq n10)
    rw [opZ_10]
    exact op_10 g tv c sp a b w h hs hc hc' ht fa fb
  cases n11 : (o.data == #[46, 46])
  rotate_left
  · obtain rfl : o = ⟨#[46, 46]⟩ := ByteArray.ext (eq_of_beq n11)
    rw [opZ_11]
    exact op_11 g tv c sp a b w h hs hc hc' ht fa fb
  rw [show opZ o c sp a b = (.zero, sType, sp) from by simp only [opZ, n0, n1, n2, n3, n4, n5, n6, n7, n8, n9, n10, n11, Bool.false_eq_true, if_false]]
  exact op_none g tv c sp o a b w h n0 n1 n2 n3 n4 n5 n6 n7 n8 n9 n10 n11

theorem rop_all (g : Nat) (tv : Value) (c sp : Int) (o : ByteArray) (a b : Vl) (w : World) (h : RB w g tv c sp) (hs : 0 ≤ sp) (hc : sp ≤ c) (hc' : c ≤ 4611686018427387903) (ht : Pow w) (fa : Fits a) (fb : Fits b) :
    Calls Tryd.prog 12 #[.pointer (some ⟨g, 0, none⟩), .string o, a.v, b.v] w fun e w' => e = .returned (.tuple #[(opZ o c sp a b).1.v, .string (opZ o c sp a b).2.1]) ∧ Only g w w' ∧ RB w' g tv c (opZ o c sp a b).2.2 := by
  cases n0 : (o.data == #[43])
  rotate_left
  · obtain rfl : o = ⟨#[43]⟩ := ByteArray.ext (eq_of_beq n0)
    rw [opZ_0]
    exact rop_0 g tv c sp a b w h hs hc hc' ht fa fb
  cases n1 : (o.data == #[45])
  rotate_left
  · obtain rfl : o = ⟨#[45]⟩ := ByteArray.ext (eq_of_beq n1)
    rw [opZ_1]
    exact rop_1 g tv c sp a b w h hs hc hc' ht fa fb
  cases n2 : (o.data == #[42])
  rotate_left
  · obtain rfl : o = ⟨#[42]⟩ := ByteArray.ext (eq_of_beq n2)
    rw [opZ_2]
    exact rop_2 g tv c sp a b w h hs hc hc' ht fa fb
  cases n3 : (o.data == #[47])
  rotate_left
  · obtain rfl : o = ⟨#[47]⟩ := ByteArray.ext (eq_of_beq n3)
    rw [opZ_3]
    exact rop_3 g tv c sp a b w h hs hc hc' ht fa fb
  cases n4 : (o.data == #[37])
  rotate_left
  · obtain rfl : o = ⟨#[37]⟩ := ByteArray.ext (eq_of_beq n4)
    rw [opZ_4]
    exact rop_4 g tv c sp a b w h hs hc hc' ht fa fb
  cases n5 : (o.data == #[60])
  rotate_left
  · obtain rfl : o = ⟨#[60]⟩ := ByteArray.ext (eq_of_beq n5)
    rw [opZ_5]
    exact rop_5 g tv c sp a b w h hs hc hc' ht fa fb
  cases n6 : (o.data == #[60, 61])
  rotate_left
  · obtain rfl : o = ⟨#[60, 61]⟩ := ByteArray.ext (eq_of_beq n6)
    rw [opZ_6]
    exact rop_6 g tv c sp a b w h hs hc hc' ht fa fb
  cases n7 : (o.data == #[62])
  rotate_left
  · obtain rfl : o = ⟨#[62]⟩ := ByteArray.ext (eq_of_beq n7)
    rw [opZ_7]
    exact rop_7 g tv c sp a b w h hs hc hc' ht fa fb
  cases n8 : (o.data == #[62, 61])
  rotate_left
  · obtain rfl : o = ⟨#[62, 61]⟩ := ByteArray.ext (eq_of_beq n8)
    rw [opZ_8]
    exact rop_8 g tv c sp a b w h hs hc hc' ht fa fb
  cases n9 : (o.data == #[61, 61])
  rotate_left
  · obtain rfl : o = ⟨#[61, 61]⟩ := ByteArray.ext (eq_of_beq n9)
    rw [opZ_9]
    exact rop_9 g tv c sp a b w h hs hc hc' ht fa fb
  cases n10 : (o.data == #[126, 61])
  rotate_left
  · obtain rfl : o = ⟨#[126, 61]⟩ := ByteArray.ext (eq_of_beq n10)
    rw [opZ_10]
    exact rop_10 g tv c sp a b w h hs hc hc' ht fa fb
  cases n11 : (o.data == #[46, 46])
  rotate_left
  · obtain rfl : o = ⟨#[46, 46]⟩ := ByteArray.ext (eq_of_beq n11)
    rw [opZ_11]
    exact rop_11 g tv c sp a b w h hs hc hc' ht fa fb
  rw [show opZ o c sp a b = (.zero, sType, sp) from by simp only [opZ, n0, n1, n2, n3, n4, n5, n6, n7, n8, n9, n10, n11, Bool.false_eq_true, if_false]]
  exact rop_none g tv c sp o a b w h hs hc hc' ht fa fb (ne_lit (l := [43]) n0) (ne_lit (l := [45]) n1) (ne_lit (l := [42]) n2) (ne_lit (l := [47]) n3) (ne_lit (l := [37]) n4) (ne_lit (l := [60]) n5) (ne_lit (l := [60, 61]) n6) (ne_lit (l := [62]) n7) (ne_lit (l := [62, 61]) n8) (ne_lit (l := [61, 61]) n9) (ne_lit (l := [126, 61]) n10) (ne_lit (l := [46, 46]) n11)
end Go.Proofs.YtidjibghicejaaaDoor
