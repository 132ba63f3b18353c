/- Words: strconv.ParseUint of 63 bits tells a word's number. -/
import Derived.Test.YthknpnhiijbgfaaDoorWdH
import Derived.Test.YthknpnhiijbgfaaDoorWdB
import Derived.Test.YthknpnhiijbgfaaDoorPow
import Derived.Lib.AtoiErrMem
namespace Go.Proofs.YthknpnhiijbgfaaDoor
open Go.RowKit
set_option linter.unusedVariables false
set_option linter.unusedSimpArgs false

/-- The library's variables, as they are laid. -/
structure Laid (w : World) : Prop where
  asc : Asc w
  pow : Pow w
  syn : ∃ te pe, w.cell? ⟨6, 0, none⟩ = some (.iface te pe)
  rng : ∃ te pe, w.cell? ⟨7, 0, none⟩ = some (.iface te pe)
theorem cell_of_ext {w w' : World} {b o : Nat} {v : Value} (h : w.cell? ⟨b, o, none⟩ = some v) (he : Ext w w') : w'.cell? ⟨b, o, none⟩ = some v := by
  have hb : b < w.heap.size := by
    rcases Nat.lt_or_ge b w.heap.size with h1 | h1
    · exact h1
    · simp [World.cell?, Array.getElem?_eq_none h1] at h
  rw [he.cells.1 b o hb]; exact h
theorem Laid.ext {w w' : World} (h : Laid w) (he : Ext w w') : Laid w' :=
  ⟨h.asc.ext he, h.pow.ext he, let ⟨a, b, c⟩ := h.syn; ⟨a, b, cell_of_ext c he⟩, let ⟨a, b, c⟩ := h.rng; ⟨a, b, cell_of_ext c he⟩⟩
def numOf : Lib.NumEnd Nat → Option Nat
  | .ok v => some v
  | _ => none
theorem val_ge : ∀ (l : List UInt8) (n : Nat), n ≤ decVal l n
  | [], n => Nat.le_refl _
  | c :: l, n => by
    have := val_ge l (10 * n + (c.toNat - 48))
    show n ≤ decVal l (10 * n + (c.toNat - 48))
    omega
theorem num_parse : ∀ (l : List UInt8) (acc : Nat), acc ≤ 9223372036854775807 → numOf (Lib.parseUintM 9223372036854775807 acc l) = if l.all digB = true ∧ decVal l acc ≤ 9223372036854775807 then some (decVal l acc) else none
  | [], acc, h => by simp [Lib.parseUintM, numOf, decVal, h]
  | c :: l, acc, h => by
    have hs : decVal (c :: l) acc = decVal l (10 * acc + (c.toNat - 48)) := rfl
    by_cases hd : 48 ≤ c.toNat ∧ c.toNat ≤ 57
    · have hg := val_ge l (10 * acc + (c.toNat - 48))
      have hdig : digB c = true := by simp [digB, hd]
      by_cases hcut : 1844674407370955162 ≤ acc
      · rw [if_neg (by rw [hs]; omega)]
        simp [Lib.parseUintM, hd, hcut, numOf]
      · by_cases hov : 9223372036854775807 < acc * 10 + (c.toNat - 48)
        · rw [if_neg (by rw [hs]; omega)]
          simp [Lib.parseUintM, hd, hcut, hov, numOf]
        · have ih := num_parse l (acc * 10 + (c.toNat - 48)) (by omega)
          have e : Lib.parseUintM 9223372036854775807 acc (c :: l) = Lib.parseUintM 9223372036854775807 (acc * 10 + (c.toNat - 48)) l := by simp [Lib.parseUintM, hd, hcut, hov]
          rw [e, ih, hs, Nat.mul_comm acc 10, List.all_cons, hdig, Bool.true_and]
    · have hdig : digB c = false := by simp [digB]; omega
      rw [if_neg (by rw [List.all_cons, hdig]; simp)]
      simp [Lib.parseUintM, hd, numOf]
theorem num_numP (l : List UInt8) : numOf (Lib.parseUintM 9223372036854775807 0 l) = numP l := num_parse l 0 (by omega)
theorem Ext.bytes_world (w : World) (t : ByteArray) : Ext w (Lib.bytesWorld w 5 t) := Lib.bytesWorld_below w _ t

set_option maxRecDepth 100000 in
set_option maxHeartbeats 1000000 in
theorem parse63 (t : ByteArray) (hne : t.size ≠ 0) (hmax : t.size ≤ 281474976710656) (w : World) (hL : Laid w) :
    Calls Tryd.prog 61 #[.string t, .int .i64 10, .int .i64 63] w fun e w' => ∃ u ev, e = .returned (.tuple #[.int .u64 u, ev]) ∧ Ext w w' ∧ Hid ((∃ v : Nat, numP t.data.toList = some v ∧ u = v ∧ ev = .nilIface) ∨ (numP t.data.toList = none ∧ ∃ T p, ev = .iface T p)) := by
  have HL := Lib.hid hL
  clear hL
  obtain ⟨y, hy⟩ : ∃ y, Lib.parseUintM 9223372036854775807 0 t.data.toList = y := ⟨_, rfl⟩
  have hnum := num_numP t.data.toList
  rw [hy] at hnum
  have HY := Lib.hid hy
  have HNUM := Lib.hid hnum
  clear hy hnum
  rcases y with v | _ | _
  ·
    go_enter Tryd.func61, Tryd.ntmps61
    go_wp2_with fail
    refine (iparse63 t hne (by omega) _).mono ?_
    rintro e w' ⟨rfl, rfl⟩
    rw [HY.out]
    simp only [Lib.uintTupleM]
    go_wp2_with fail
    go_ret2
    exact ⟨_, _, rfl, Ext.bytes_world w t, Lib.hid (.inl ⟨v, by rw [← HNUM.out]; rfl, rfl, rfl⟩)⟩
  ·
    obtain ⟨te, pe, hc⟩ := (HL.out.ext (Ext.bytes_world w t)).syn
    have HC := Lib.hid hc
    clear hc
    go_enter Tryd.func61, Tryd.ntmps61
    go_wp2_with fail
    refine (iparse63 t hne (by omega) _).mono ?_
    rintro e w' ⟨rfl, rfl⟩
    rw [HY.out]
    simp only [Lib.uintTupleM]
    go_wp2_with fail
    refine (Tryd.strconv_toError_syntax _ t _ _ (.iface te pe) _ hmax HC.out (.inr ⟨te, pe, rfl⟩)).mono ?_
    rintro e w' ⟨nb, rfl, _, _, hb⟩
    have HB := Lib.hid hb
    clear hb
    go_wp2_with fail
    go_ret2
    exact ⟨_, _, rfl, (Ext.bytes_world w t).trans HB.out, Lib.hid (.inr ⟨by rw [← HNUM.out]; rfl, _, _, rfl⟩)⟩
  ·
    obtain ⟨te, pe, hc⟩ := (HL.out.ext (Ext.bytes_world w t)).rng
    have HC := Lib.hid hc
    clear hc
    go_enter Tryd.func61, Tryd.ntmps61
    go_wp2_with fail
    refine (iparse63 t hne (by omega) _).mono ?_
    rintro e w' ⟨rfl, rfl⟩
    rw [HY.out]
    simp only [Lib.uintTupleM]
    go_wp2_with fail
    refine (Tryd.strconv_toError_range _ t _ _ (.iface te pe) _ hmax HC.out (.inr ⟨te, pe, rfl⟩)).mono ?_
    rintro e w' ⟨nb, rfl, _, _, hb⟩
    have HB := Lib.hid hb
    clear hb
    go_wp2_with fail
    go_ret2
    exact ⟨_, _, rfl, (Ext.bytes_world w t).trans HB.out, Lib.hid (.inr ⟨by rw [← HNUM.out]; rfl, _, _, rfl⟩)⟩
end Go.Proofs.YthknpnhiijbgfaaDoor
