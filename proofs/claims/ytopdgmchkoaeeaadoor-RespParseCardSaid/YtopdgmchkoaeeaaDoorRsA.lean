/- The reader of resp as it lies in memory; must, one. -/
import Derived.Test.YtopdgmchkoaeeaaDoorBase
import Derived.Test.YtopdgmchkoaeeaaDoorProg
import Derived.StillTailTactics
import Derived.Defers
import Derived.Recover
import Derived.Lib.ConvBytes
import Derived.IntWalk
namespace Go.Proofs.YtopdgmchkoaeeaaDoor
open Go.RowKit
set_option linter.unusedVariables false
set_option linter.unusedSimpArgs false

theorem cell_lt {w : World} {a : Addr} {v : Value} (h : w.cell? a = some v) : a.block < w.heap.size := by
  rcases Nat.lt_or_ge a.block w.heap.size with hlt | hge
  · exact hlt
  · simp [World.cell?, Array.getElem?_eq_none hge] at h
theorem Ext.cell {w w' : World} (h : Ext w w') {a : Addr} {v : Value} (hc : w.cell? a = some v) : w'.cell? a = some v :=
  (Below.cell h (cell_lt hc)).trans hc
theorem Only.cell {w w' : World} {g : Nat} (h : Only g w w') {b o : Nat} {v : Value} (hb : ¬ b = g) (hc : w.cell? ⟨b, o, none⟩ = some v) : w'.cell? ⟨b, o, none⟩ = some v :=
  (h.cells.1 b o (cell_lt hc) hb).trans hc

theorem Only.set {g : Nat} {a w : World} (h : Only g a w) (i : Nat) (u : Value) : Only g a (w.setCell ⟨g, i, none⟩ u) := h.setCell (.inl rfl) u

/-- What is given up with. -/
def Gave (c : Int) (e : Ending) : Prop := e = .panicked [{ v := .iface 107 (.agg #[.int .i64 c]), recovered := false }]

/-- The reader of bytes: at a place, so many bytes of texts, so many replies yet. -/
structure InAt (w : World) (g : Nat) (q : Option Addr) (cap : Nat) (l : List UInt8) (p t i : Int) : Prop where
  blk : Blk w g 85 #[.slice q l.length cap, .int .i64 p, .int .i64 t, .int .i64 i]
  bytes : ∀ k (h : k < l.length), ∃ b o, q = some ⟨b, o, none⟩ ∧ ¬ b = g ∧ w.cell? ⟨b, o + k, none⟩ = some (.int .u8 (l[k].toNat : Int))
  len : l.length ≤ 9223372036854775807
  slot : (q = none ∧ cap = 0) ∨ ∃ b o, q = some ⟨b, o, none⟩ ∧ ¬ b = g
  room : l.length ≤ cap ∧ cap ≤ 9223372036854775807
theorem InAt.ext {w w' : World} {g : Nat} {q : Option Addr} {cap : Nat} {l : List UInt8} {p t i : Int} (h : InAt w g q cap l p t i) (he : Ext w w') : InAt w' g q cap l p t i :=
  ⟨h.blk.ext he, fun k hk => let ⟨b, o, e, n, c⟩ := h.bytes k hk; ⟨b, o, e, n, he.cell c⟩, h.len, h.slot, h.room⟩
theorem InAt.lt {w : World} {g : Nat} {q : Option Addr} {cap : Nat} {l : List UInt8} {p t i : Int} (h : InAt w g q cap l p t i) : g < w.heap.size := h.blk.lt
theorem InAt.put {w w' : World} {g : Nat} {q : Option Addr} {cap : Nat} {l : List UInt8} {p t i p' t' i' : Int} (h : InAt w g q cap l p t i) (ho : Only g w w')
    (hb : Blk w' g 85 #[.slice q l.length cap, .int .i64 p', .int .i64 t', .int .i64 i']) : InAt w' g q cap l p' t' i' :=
  ⟨hb, fun k hk => let ⟨b, o, e, n, c⟩ := h.bytes k hk; ⟨b, o, e, n, ho.cell n c⟩, h.len, h.slot, h.room⟩

theorem must_yes (c : Int) (w : World) : Calls Tryd.prog 55 #[.bool true, .int .i64 c] w fun e w' => e = .returned (.tuple #[]) ∧ w = w' := by
  go_enter Tryd.func55, Tryd.ntmps55
  go_wp2
  go_end0
  exact ⟨rfl, rfl⟩
theorem must_no (c : Int) (w : World) : Calls Tryd.prog 55 #[.bool false, .int .i64 c] w fun e w' => Gave c e ∧ w = w' := by
  go_enter Tryd.func55, Tryd.ntmps55
  go_wp2
  exact ⟨rfl, rfl, rfl⟩
end Go.Proofs.YtopdgmchkoaeeaaDoor
