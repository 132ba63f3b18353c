/- The document's reader as it lies in memory; fail, next, want. -/
import Derived.Test.YtopdgmchkoaeeaaDoorRsD
namespace Go.Proofs.YtopdgmchkoaeeaaDoor
open Go.RowKit
set_option linter.unusedVariables false
set_option linter.unusedSimpArgs false

/-- The document's reader: a text, a place, what ended it, bytes of texts, replies yet. -/
abbrev RBlk (w : World) (g : Nat) (s : ByteArray) (p x t i : Int) : Prop := Blk w g 91 #[.string s, .int .i64 p, .int .i64 x, .int .i64 t, .int .i64 i]
/-- It is well, at a place; or a thing ended it. -/
def RefAt (w : World) (g : Nat) (s : ByteArray) (t i : Int) : Except Int Nat → Prop
  | .ok p => RBlk w g s p 0 t i
  | .error e => e ≠ 0 ∧ ∃ p t i : Int, RBlk w g s p e t i

theorem rblk_set {w : World} {g : Nat} {s : ByteArray} {p x t i : Int} (h : RBlk w g s p x t i) (y : Int) : RBlk (w.setCell ⟨g, 2, none⟩ (.int .i64 y)) g s p y t i := by
  simpa using h.set_ 2 (.int .i64 y)
theorem rblk_at {w : World} {g : Nat} {s : ByteArray} {p x t i : Int} (h : RBlk w g s p x t i) (y : Int) : RBlk (w.setCell ⟨g, 1, none⟩ (.int .i64 y)) g s y x t i := by
  simpa using h.set_ 1 (.int .i64 y)
theorem rblk_texts {w : World} {g : Nat} {s : ByteArray} {p x t i : Int} (h : RBlk w g s p x t i) (y : Int) : RBlk (w.setCell ⟨g, 3, none⟩ (.int .i64 y)) g s p x y i := by
  simpa using h.set_ 3 (.int .i64 y)
theorem rblk_items {w : World} {g : Nat} {s : ByteArray} {p x t i : Int} (h : RBlk w g s p x t i) (y : Int) : RBlk (w.setCell ⟨g, 4, none⟩ (.int .i64 y)) g s p x t y := by
  simpa using h.set_ 4 (.int .i64 y)

set_option maxRecDepth 100000 in
theorem fail_ok (c : Int) (w : World) (g : Nat) (s : ByteArray) (p t i : Int) (h : RBlk w g s p 0 t i) :
    Calls Tryd.prog 67 #[.pointer (some ⟨g, 0, none⟩), .int .i64 c] w fun e w' => e = .returned (.tuple #[]) ∧ RBlk w' g s p c t i ∧ Only g w w' := by
  have c2 := h.cell 2
  have z2 := h.frozen 2
  simp only [List.getElem?_toArray, List.getElem?_cons_zero, List.getElem?_cons_succ] at c2
  have H := Lib.hid h
  clear h
  go_enter Tryd.func67, Tryd.ntmps67
  go_wp2_with fail
  go_end0
  exact ⟨rfl, rblk_set H.out c, (Only.refl g w).setCell (.inl rfl) _⟩
set_option maxRecDepth 100000 in
theorem fail_bad (c : Int) (w : World) (g : Nat) (s : ByteArray) (p x t i : Int) (h : RBlk w g s p x t i) (hx : x ≠ 0) :
    Calls Tryd.prog 67 #[.pointer (some ⟨g, 0, none⟩), .int .i64 c] w fun e w' => e = .returned (.tuple #[]) ∧ w = w' := by
  have c2 := h.cell 2
  have e0 : (x == 0) = false := by simpa using hx
  simp only [List.getElem?_toArray, List.getElem?_cons_zero, List.getElem?_cons_succ] at c2
  clear h hx
  go_enter Tryd.func67, Tryd.ntmps67
  go_wp2_with fail
  go_end0
  exact ⟨rfl, rfl⟩
set_option maxRecDepth 100000 in
theorem next_ok (w : World) (g : Nat) (s : ByteArray) (p : Nat) (t i : Int) (h : RBlk w g s p 0 t i) (hp : p < s.size) (hs : s.size ≤ 9223372036854775807) :
    Calls Tryd.prog 66 #[.pointer (some ⟨g, 0, none⟩)] w fun e w' => e = .returned (.int .u8 ((s.data.toList[p]'hp).toNat : Int)) ∧ RBlk w' g s ((p + 1 : Nat) : Int) 0 t i ∧ Only g w w' := by
  have c0 := h.cell 0
  have c1 := h.cell 1
  have c2 := h.cell 2
  have z1 := h.frozen 1
  simp only [List.getElem?_toArray, List.getElem?_cons_zero, List.getElem?_cons_succ] at c0 c1 c2
  have d1 : decide ((s.size : Int) ≤ (p : Int)) = false := decide_eq_false (by omega)
  have d1n : decide (s.size ≤ p) = false := decide_eq_false (by omega)
  have k0 : (0 : Int) ≤ (p : Int) := by omega
  have k1 : (p : Int) < (s.size : Int) := by omega
  have H := Lib.hid h
  clear h
  go_enter Tryd.func66, Tryd.ntmps66
  go_wp2_with fail
  go_quiet (fail)
  have E1 := Lib.hid ((Ext.refl w).drewN nq)
  generalize w.drewN nq = w1 at E1 ⊢
  replace c0 := E1.out.cell c0
  replace c1 := E1.out.cell c1
  replace c2 := E1.out.cell c2
  replace z1 : w1.frozen? ⟨g, 1, none⟩ = false := ((Ext.cells E1.out).2 g 1 H.out.lt).trans z1
  go_wp2_with fail
  go_quiet (fail)
  go_wp2_with fail
  go_ret
  exact ⟨rfl, (rblk_at (H.out.ext E1.out) _).drewN nq, (((Only.of_ext E1.out).setCell (.inl rfl) _).ext ((Ext.refl _).drewN nq))⟩
set_option maxRecDepth 100000 in
theorem next_end (w : World) (g : Nat) (s : ByteArray) (p : Nat) (t i : Int) (h : RBlk w g s p 0 t i) (hp : ¬ p < s.size) :
    Calls Tryd.prog 66 #[.pointer (some ⟨g, 0, none⟩)] w fun e w' => e = .returned (.int .u8 0) ∧ RBlk w' g s p 130 t i ∧ Only g w w' := by
  have c0 := h.cell 0
  have c1 := h.cell 1
  have c2 := h.cell 2
  simp only [List.getElem?_toArray, List.getElem?_cons_zero, List.getElem?_cons_succ] at c0 c1 c2
  have d1 : decide ((s.size : Int) ≤ (p : Int)) = true := decide_eq_true (by omega)
  have d1n : decide (s.size ≤ p) = true := decide_eq_true (by omega)
  have H := Lib.hid h
  clear h hp
  go_enter Tryd.func66, Tryd.ntmps66
  go_wp2_with fail
  go_quiet (fail)
  have E1 := Lib.hid ((Ext.refl w).drewN nq)
  generalize w.drewN nq = w1 at E1 ⊢
  go_wp2_with fail
  refine (fail_ok 130 w1 g s p t i (H.out.ext E1.out)).mono ?_
  rintro e w2 ⟨rfl, b2, o2⟩
  have c2 := b2.cell 2
  simp only [List.getElem?_toArray, List.getElem?_cons_zero, List.getElem?_cons_succ] at c2
  have B2 := Lib.hid b2
  have O2 := Lib.hid ((Only.of_ext E1.out).trans o2)
  clear b2 o2
  go_wp2_with fail
  go_ret
  exact ⟨rfl, B2.out, O2.out⟩
set_option maxRecDepth 100000 in
theorem next_bad (w : World) (g : Nat) (s : ByteArray) (p x t i : Int) (h : RBlk w g s p x t i) (hx : x ≠ 0) :
    Calls Tryd.prog 66 #[.pointer (some ⟨g, 0, none⟩)] w fun e w' => e = .returned (.int .u8 0) ∧ Ext w w' := by
  have c0 := h.cell 0
  have c1 := h.cell 1
  have c2 := h.cell 2
  have e0 : (x == 0) = false := by simpa using hx
  have e1 : (x != 0) = true := by simpa using hx
  simp only [List.getElem?_toArray, List.getElem?_cons_zero, List.getElem?_cons_succ] at c0 c1 c2
  clear h hx
  go_enter Tryd.func66, Tryd.ntmps66
  go_wp2_with fail
  go_quiet (fail)
  have E1 := Lib.hid ((Ext.refl w).drewN nq)
  generalize w.drewN nq = w1 at E1 ⊢
  replace c2 := E1.out.cell c2
  go_wp2_with fail
  go_ret
  exact ⟨rfl, E1.out⟩
/-- The next byte must be this one. -/
def mustS (l : List UInt8) (c : UInt8) : Except Int Nat → Except Int Nat
  | .ok p => skipS l [c] p
  | .error e => .error e
theorem want_any (c : UInt8) (w : World) (g : Nat) (s : ByteArray) (t i : Int) (r : Except Int Nat) (h : RefAt w g s t i r) (hc : c ≠ 0) (hs : s.size ≤ 9223372036854775807) :
    Calls Tryd.prog 46 #[.pointer (some ⟨g, 0, none⟩), .int .u8 (c.toNat : Int)] w fun e w' => e = .returned (.tuple #[]) ∧ RefAt w' g s t i (mustS s.data.toList c r) ∧ Only g w w' := by
  have hc0 : ((0 : Int) != (c.toNat : Int)) = true := by
    have : c.toNat ≠ 0 := fun h => hc (UInt8.toNat_inj.mp h)
    simp; omega
  cases r with
  | error x =>
    obtain ⟨hx, p, t', i', hb⟩ := h
    have HB := Lib.hid hb
    have HX := Lib.hid hx
    show Calls Tryd.prog 46 #[.pointer (some ⟨g, 0, none⟩), .int .u8 (c.toNat : Int)] w fun e w' => e = .returned (.tuple #[]) ∧ RefAt w' g s t i (.error x) ∧ Only g w w'
    clear hb hx hs
    generalize (c.toNat : Int) = C at hc0 ⊢
    go_enter Tryd.func46, Tryd.ntmps46
    go_wp2_with fail
    refine (next_bad _ _ _ _ _ _ _ HB.out HX.out).mono ?_
    rintro e w1 ⟨rfl, e1⟩
    have E1 := Lib.hid e1
    clear e1
    go_wp2_with fail
    refine (fail_bad _ _ _ _ _ _ _ _ (HB.out.ext E1.out) HX.out).mono ?_
    rintro e w' ⟨rfl, rfl⟩
    go_wp2_with fail
    go_end0
    exact ⟨rfl, ⟨HX.out, _, _, _, HB.out.ext E1.out⟩, Only.of_ext E1.out⟩
  | ok p =>
    have HB : Hid (RBlk w g s p 0 t i) := Lib.hid h
    show Calls Tryd.prog 46 #[.pointer (some ⟨g, 0, none⟩), .int .u8 (c.toNat : Int)] w fun e w' => e = .returned (.tuple #[]) ∧ RefAt w' g s t i (skipS s.data.toList [c] p) ∧ Only g w w'
    clear h
    by_cases hp : p < s.size
    · have hpl : p < s.data.toList.length := hp
      have hN := next_ok w g s p t i HB.out hp hs
      have hk : skipS s.data.toList [c] p = if s.data.toList[p] = c then .ok (p + 1) else .error 131 := by simp only [skipS, dif_pos hpl]
      rw [hk]
      have HN := Lib.hid hN
      clear hN hs hk
      by_cases hbc : s.data.toList[p] = c
      · rw [if_pos hbc]
        rw [hbc] at HN
        generalize (c.toNat : Int) = C at HN hc0 ⊢
        clear hbc hp hpl
        go_enter Tryd.func46, Tryd.ntmps46
        go_wp2_with fail
        refine HN.out.mono ?_
        rintro e w1 ⟨rfl, b1, o1⟩
        have B1 := Lib.hid b1
        have O1 := Lib.hid o1
        clear b1 o1
        go_wp2_with fail
        go_end0
        exact ⟨rfl, B1.out, O1.out⟩
      · rw [if_neg hbc]
        have hne : ((s.data.toList[p].toNat : Int) != (c.toNat : Int)) = true := by
          have : s.data.toList[p].toNat ≠ c.toNat := fun h => hbc (UInt8.toNat_inj.mp h)
          exact bne_iff_ne.mpr (fun h => this (by omega))
        generalize (c.toNat : Int) = C at HN hc0 hne ⊢
        generalize (s.data.toList[p].toNat : Int) = D at HN hne
        clear hbc hp hpl
        go_enter Tryd.func46, Tryd.ntmps46
        go_wp2_with fail
        refine HN.out.mono ?_
        rintro e w1 ⟨rfl, b1, o1⟩
        have B1 := Lib.hid b1
        have O1 := Lib.hid o1
        clear b1 o1
        go_wp2_with fail
        refine (fail_ok _ _ _ _ _ _ _ B1.out).mono ?_
        rintro e w2 ⟨rfl, b2, o2⟩
        have B2 := Lib.hid b2
        have O2 := Lib.hid (O1.out.trans o2)
        clear b2 o2
        go_wp2_with fail
        go_end0
        exact ⟨rfl, ⟨by decide, _, _, _, B2.out⟩, O2.out⟩
    · have hpl : ¬ p < s.data.toList.length := hp
      have hk : skipS s.data.toList [c] p = .error 130 := by simp only [skipS, dif_neg hpl]
      rw [hk]
      have HN := Lib.hid (next_end w g s p t i HB.out hp)
      clear hs hk hp hpl
      generalize (c.toNat : Int) = C at hc0 ⊢
      go_enter Tryd.func46, Tryd.ntmps46
      go_wp2_with fail
      refine HN.out.mono ?_
      rintro e w1 ⟨rfl, b1, o1⟩
      have B1 := Lib.hid b1
      have O1 := Lib.hid o1
      clear b1 o1
      go_wp2_with fail
      refine (fail_bad _ _ _ _ _ _ _ _ B1.out (by decide)).mono ?_
      rintro e w' ⟨rfl, rfl⟩
      go_wp2_with fail
      go_end0
      exact ⟨rfl, ⟨by decide, _, _, _, B1.out⟩, O1.out⟩
end Go.Proofs.YtopdgmchkoaeeaaDoor
