/- The reader of resp as it lies in memory; must, one. The next byte. Bytes that must be these. -/
import Derived.Test.YtopdgmchkoaeeaaDoorBase
import Derived.Test.YtopdgmchkoaeeaaDoorProg
import Derived.StillTailTactics
import Derived.Defers
import Derived.Recover
import Derived.Lib.ConvBytes
import Derived.IntWalk
import Derived.Deep.QuietTactic
import Derived.Deep.RegionHeld3
import Derived.Deep.DrawnRows
import Derived.Test.YtopdgmchkoaeeaaDoorRspP
namespace Go.Proofs.YtopdgmchkoaeeaaDoor
open Go.RowKit
set_option linter.unusedVariables false
set_option linter.unusedSimpArgs false

theorem cell_lt {w : World} {a : Addr} {v : Value} (h : w.cell? a = some v) : a.block < w.heap.size := by
  rcases Nat.lt_or_ge a.block w.heap.size with hlt | hge
  · exact hlt
  · simp [World.cell?, Array.getElem?_eq_none hge] at h
theorem Ext.cell {w w' : World} (h : Ext w w') {a : Addr} {v : Value} (hc : w.cell? a = some v) : w'.cell? a = some v :=
  (Below.cell h (cell_lt hc)).trans hc
theorem Only.cell {w w' : World} {g : Nat} (h : Only g w w') {b o : Nat} {v : Value} (hb : ¬ b = g) (hc : w.cell? ⟨b, o, none⟩ = some v) : w'.cell? ⟨b, o, none⟩ = some v :=
  (h.cells.1 b o (cell_lt hc) hb).trans hc

theorem Only.set {g : Nat} {a w : World} (h : Only g a w) (i : Nat) (u : Value) : Only g a (w.setCell ⟨g, i, none⟩ u) := h.setCell (.inl rfl) u

/-- What is given up with. -/
def Gave (c : Int) (e : Ending) : Prop := e = .panicked [{ v := .iface 107 (.agg #[.int .i64 c]), recovered := false }]

/-- The reader of bytes: at a place, so many bytes of texts, so many replies yet. -/
structure InAt (w : World) (g : Nat) (q : Option Addr) (cap : Nat) (l : List UInt8) (p t i : Int) : Prop where
  blk : Blk w g 85 #[.slice q l.length cap, .int .i64 p, .int .i64 t, .int .i64 i]
  bytes : ∀ k (h : k < l.length), ∃ b o, q = some ⟨b, o, none⟩ ∧ ¬ b = g ∧ w.cell? ⟨b, o + k, none⟩ = some (.int .u8 (l[k].toNat : Int))
  len : l.length ≤ 9223372036854775807
  slot : (q = none ∧ cap = 0) ∨ ∃ b o, q = some ⟨b, o, none⟩ ∧ ¬ b = g
  room : l.length ≤ cap ∧ cap ≤ 9223372036854775807
theorem InAt.ext {w w' : World} {g : Nat} {q : Option Addr} {cap : Nat} {l : List UInt8} {p t i : Int} (h : InAt w g q cap l p t i) (he : Ext w w') : InAt w' g q cap l p t i :=
  ⟨h.blk.ext he, fun k hk => let ⟨b, o, e, n, c⟩ := h.bytes k hk; ⟨b, o, e, n, he.cell c⟩, h.len, h.slot, h.room⟩
theorem InAt.lt {w : World} {g : Nat} {q : Option Addr} {cap : Nat} {l : List UInt8} {p t i : Int} (h : InAt w g q cap l p t i) : g < w.heap.size := h.blk.lt
theorem InAt.put {w w' : World} {g : Nat} {q : Option Addr} {cap : Nat} {l : List UInt8} {p t i p' t' i' : Int} (h : InAt w g q cap l p t i) (ho : Only g w w')
    (hb : Blk w' g 85 #[.slice q l.length cap, .int .i64 p', .int .i64 t', .int .i64 i']) : InAt w' g q cap l p' t' i' :=
  ⟨hb, fun k hk => let ⟨b, o, e, n, c⟩ := h.bytes k hk; ⟨b, o, e, n, ho.cell n c⟩, h.len, h.slot, h.room⟩

theorem must_yes (c : Int) (w : World) : Calls Tryd.prog 55 #[.bool true, .int .i64 c] w fun e w' => e = .returned (.tuple #[]) ∧ w = w' := by
  go_enter Tryd.func55, Tryd.ntmps55
  go_wp2
  go_end0
  exact ⟨rfl, rfl⟩
theorem must_no (c : Int) (w : World) : Calls Tryd.prog 55 #[.bool false, .int .i64 c] w fun e w' => Gave c e ∧ w = w' := by
  go_enter Tryd.func55, Tryd.ntmps55
  go_wp2
  exact ⟨rfl, rfl, rfl⟩
end Go.Proofs.YtopdgmchkoaeeaaDoor
namespace Go.Proofs.YtopdgmchkoaeeaaDoor
open Go.RowKit
set_option linter.unusedVariables false
set_option linter.unusedSimpArgs false

set_option maxRecDepth 100000 in
theorem one_end (w : World) (g : Nat) (q : Option Addr) (cap : Nat) (l : List UInt8) (p t i : Int) (h : InAt w g q cap l p t i) (hp : ¬ p < (l.length : Int)) :
    Calls Tryd.prog 64 #[.pointer (some ⟨g, 0, none⟩)] w fun e w' => Gave 130 e ∧ Ext w w' := by
  have hd : decide (p < (l.length : Int)) = false := by simpa using hp
  have c0 := h.blk.cell 0
  have c1 := h.blk.cell 1
  have c2 := h.blk.cell 2
  have c3 := h.blk.cell 3
  simp only [List.getElem?_toArray, List.getElem?_cons_zero, List.getElem?_cons_succ] at c0 c1 c2 c3
  clear h
  go_enter Tryd.func64, Tryd.ntmps64
  go_wp2_with fail
  go_still_tail 10, (by kernel_rfl)
  change wpList _ _ _ _ _ w.drew
  generalize hw2 : w.drew = w2
  go_wp2_with fail
  refine (must_no _ _).mono ?_
  rintro e w' ⟨rfl, rfl⟩
  go_wp2_with fail
  exact ⟨rfl, rfl, hw2 ▸ (Ext.refl w).drew⟩
set_option maxRecDepth 100000 in
theorem one_ok (w : World) (g : Nat) (q : Option Addr) (cap : Nat) (l : List UInt8) (p : Nat) (t i : Int) (h : InAt w g q cap l p t i) (hp : p < l.length) :
    Calls Tryd.prog 64 #[.pointer (some ⟨g, 0, none⟩)] w fun e w' => e = .returned (.int .u8 (l[p].toNat : Int)) ∧ InAt w' g q cap l ((p + 1 : Nat) : Int) t i ∧ Only g w w' := by
  have hd : decide ((p : Int) < (l.length : Int)) = true := by simp; exact hp
  have hl := h.len
  obtain ⟨b, o, rfl, hb, cb⟩ := h.bytes p hp
  have c0 := h.blk.cell 0
  have c1 := h.blk.cell 1
  simp only [List.getElem?_toArray, List.getElem?_cons_zero, List.getElem?_cons_succ] at c0 c1
  have H := Lib.hid h
  clear h
  have k0 : (0 : Int) ≤ (p : Int) := by omega
  have k1 : (p : Int) < (l.length : Int) := by omega
  go_enter Tryd.func64, Tryd.ntmps64
  go_wp2_with fail
  go_still_tail 10, (by kernel_rfl)
  change wpList _ _ _ _ _ w.drew
  generalize hw2 : w.drew = w2
  have E2 := Lib.hid (hw2 ▸ (Ext.refl w).drew : Ext w w2)
  replace c0 := E2.out.cell c0
  replace c1 := E2.out.cell c1
  replace cb := E2.out.cell cb
  have zg := H.out.blk.frozen 1
  have zg2 : w2.frozen? ⟨g, 1, none⟩ = false := ((Ext.cells E2.out).2 g 1 H.out.lt).trans zg
  clear hw2 zg
  go_wp2_with fail
  refine (must_yes _ _).mono ?_
  rintro e w' ⟨rfl, rfl⟩
  go_wp2_with fail
  go_quiet (fail)
  go_wp2_with fail
  go_ret
  have B := ((H.out.blk.ext E2.out).set_ 1 (.int .i64 ((p : Int) + 1))).drewN nq
  have O : Only g w ((w2.setCell ⟨g, 1, none⟩ (.int .i64 ((p : Int) + 1))).drewN nq) := ((Only.of_ext E2.out).setCell (.inl rfl) _).ext ((Ext.refl _).drewN nq)
  exact ⟨rfl, H.out.put O (by simpa using B), O⟩
end Go.Proofs.YtopdgmchkoaeeaaDoor
namespace Go.Proofs.YtopdgmchkoaeeaaDoor
open Go.RowKit
set_option linter.unusedVariables false
set_option linter.unusedSimpArgs false

theorem bytes_ext (w : World) (e : TypeId) (s : ByteArray) : Ext w (Lib.bytesWorld w e s) :=
  ⟨rfl, rfl, rfl, by rw [Lib.bytesWorld_size]; omega, fun k hk => Lib.bytesWorld_at_old w e s k hk⟩

/-- What skip leaves. -/
def SkipE (w : World) (g : Nat) (q : Option Addr) (cap : Nat) (l : List UInt8) (t i : Int) (r : Except Int Nat) (e : Ending) (w' : World) : Prop :=
  match r with
  | .ok p => e = .returned (.tuple #[]) ∧ InAt w' g q cap l p t i ∧ Only g w w'
  | .error c => Gave c e ∧ Only g w w'
theorem SkipE.ok {w : World} {g : Nat} {q : Option Addr} {cap : Nat} {l : List UInt8} {t i : Int} {r : Except Int Nat} {e : Ending} {w' : World} {p : Nat} (hr : r = .ok p) (h : e = .returned (.tuple #[]) ∧ InAt w' g q cap l p t i ∧ Only g w w') : SkipE w g q cap l t i r e w' := by
  subst hr; exact h
theorem SkipE.err {w : World} {g : Nat} {q : Option Addr} {cap : Nat} {l : List UInt8} {t i : Int} {r : Except Int Nat} {e : Ending} {w' : World} {c : Int} (hr : r = .error c) (h : Gave c e ∧ Only g w w') : SkipE w g q cap l t i r e w' := by
  subst hr; exact h

set_option maxRecDepth 100000 in
set_option maxHeartbeats 1000000 in
theorem skip_any (s : ByteArray) (w : World) (g : Nat) (q : Option Addr) (cap : Nat) (l : List UInt8) (p : Nat) (t i : Int) (h : InAt w g q cap l p t i) (hs : s.size ≤ 9223372036854775807) :
    Calls Tryd.prog 43 #[.pointer (some ⟨g, 0, none⟩), .string s] w (SkipE w g q cap l t i (skipS l s.data.toList p)) := by
  have kc := fun (W : World) => Lib.run_convert_string_bytes (P := Tryd.prog) W 9 25 5 s Tryd.underlying9 Tryd.underlying25 Tryd.underlying5
  obtain ⟨r, hr⟩ : ∃ r, skipS l s.data.toList p = r := ⟨_, rfl⟩
  rw [hr]
  have HR := Lib.hid hr
  have H := Lib.hid h
  have E0 := Lib.hid (bytes_ext w 5 s)
  have C0 := Lib.hid (Lib.bytesWorld_cell w 5 s)
  have Z0 := Lib.hid (Lib.bytesWorld_size w 5 s)
  have hsz : s.data.toList.length = s.size := rfl
  have hg := H.out.lt
  clear hr h
  go_enter Tryd.func43, Tryd.ntmps43
  go_wp2_with fail
  generalize Lib.bytesWorld w 5 s = w1 at E0 C0 Z0 ⊢
  go_loopw [9] (fun k wr => ∃ n : Nat, n ≤ s.size ∧ k = .int .i64 n ∧ Hid (InAt wr g q cap l ((p + n : Nat) : Int) t i) ∧ Hid (Only g w1 wr) ∧ Hid (skipS l (s.data.toList.drop n) (p + n) = r)) (fun k _ => s.size - (intOf k).toNat)
  case atStart => exact ⟨0, Nat.zero_le _, rfl, Lib.hid (by simpa using H.out.ext E0.out), Lib.hid (Only.refl _ _), Lib.hid (by simpa using HR.out)⟩
  case round =>
    obtain ⟨n, hn, rfl, HI, HO, HS⟩ := hrel
    clear HR kc
    by_cases hlt : n < s.size
    · have hnl : n < s.data.toList.length := hlt
      have cb : wr.cell? ⟨w.heap.size, n, none⟩ = some (.int .u8 (s.data.toList[n].toNat : Int)) := by
        have := HO.out.cell (b := w.heap.size) (by omega) (C0.out n hlt)
        rw [this]
        simp [List.getD, List.getElem?_eq_getElem hnl]
      have S := HS.out
      rw [List.drop_eq_getElem_cons hnl] at S
      have HC := Lib.hid S
      clear S HS
      generalize s.data.toList[n] = c at cb HC
      by_cases hp : p + n < l.length
      · have S := HC.out
        simp only [skipS, dif_pos hp] at S
        have HD := Lib.hid S
        clear S HC
        by_cases hc : l[p + n] = c
        · have S := HD.out
          rw [if_pos hc] at S
          have HE := Lib.hid S
          have e1 : ((l[p + n].toNat : Int) == (c.toNat : Int)) = true := by rw [hc]; simp
          clear S HD hc
          go_wp2_with (fail)
          refine (one_ok _ _ _ _ _ _ _ _ HI.out hp).mono ?_
          rintro e w' ⟨rfl, h1, o1⟩
          have HI2 := Lib.hid h1
          have HO2 := Lib.hid (HO.out.trans o1)
          clear h1 o1
          go_wp2_with (fail)
          refine (must_yes _ _).mono ?_
          rintro e w' ⟨rfl, rfl⟩
          go_wp2_with fail
          go_roundw
          case rel => exact ⟨n + 1, by omega, by go_num, HI2, HO2, HE⟩
          case measure => simp [intOf]; omega
        · have S := HD.out
          rw [if_neg hc] at S
          have HE := Lib.hid S
          have e1 : ((l[p + n].toNat : Int) == (c.toNat : Int)) = false := by
            simp only [beq_eq_false_iff_ne, ne_eq, Int.natCast_inj]
            intro h; exact hc (UInt8.toNat_inj.mp h)
          clear S HD hc
          go_wp2_with (fail)
          refine (one_ok _ _ _ _ _ _ _ _ HI.out hp).mono ?_
          rintro e w' ⟨rfl, h1, o1⟩
          have HO2 := Lib.hid (HO.out.trans o1)
          clear h1 o1
          go_wp2_with (fail)
          refine (must_no _ _).mono ?_
          rintro e w' ⟨rfl, rfl⟩
          go_wp2_with fail
          exact ⟨rfl, SkipE.err HE.out.symm ⟨rfl, (Only.of_ext E0.out).trans HO2.out⟩⟩
      · have S := HC.out
        simp only [skipS, dif_neg hp] at S
        have HE := Lib.hid S
        clear S HC
        go_wp2_with (fail)
        refine (one_end _ _ _ _ _ _ _ _ HI.out (by omega)).mono ?_
        rintro e w' ⟨rfl, e1⟩
        go_wp2_with fail
        exact ⟨rfl, SkipE.err HE.out.symm ⟨rfl, (Only.of_ext E0.out).trans (HO.out.ext e1)⟩⟩
    · obtain rfl : n = s.size := by omega
      have S := HS.out
      rw [← hsz, List.drop_length] at S
      simp only [skipS] at S
      have HE := Lib.hid S
      clear S HS
      go_wp2_with fail
      refine bodyPost_ret (results_none rfl _ _ _) rfl ?_
      exact SkipE.ok HE.out.symm ⟨rfl, HI.out, (Only.of_ext E0.out).trans HO.out⟩
end Go.Proofs.YtopdgmchkoaeeaaDoor
