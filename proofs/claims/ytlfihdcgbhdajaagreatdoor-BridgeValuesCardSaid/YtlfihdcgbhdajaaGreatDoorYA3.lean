/- The reader of resp as it lies in memory; must, one. The next byte. Bytes that must be these. A line of digits. A text of so many bytes, and the line's end; a length and a text. What is deferred at a face: caught; the answers struck. A request that is read. A request that is read: the walk of Parse. A line's text; a number with its sign. Replies: how they lie; the ways in which one is read, by its sign. A reply behind its sign: all but a list. A reply behind '$': none, or a text. A list of replies as it is read: what holds at the head of the loop, and how it goes on. A list of replies: the walk of kinds$5. A reply is read by its sign. -/
import Derived.Test.YtlfihdcgbhdajaaGreatDoorYA1
import Derived.Test.YtlfihdcgbhdajaaGreatDoorProg
import Derived.StillTailTactics
import Derived.Defers
import Derived.Recover
import Derived.Lib.ConvBytes
import Derived.IntWalk
import Derived.Deep.QuietTactic
import Derived.Deep.RegionHeld3
import Derived.Deep.DrawnRows
import Derived.Test.YtlfihdcgbhdajaaGreatDoorYA2
import Derived.Deep.DeepCutAuto
import Derived.Deep.CutBlock
import Derived.Laws.BytesArg
import Derived.Deep.AppendLies
import Derived.Deep.RegionLaw
import Derived.Deep.RegionWith
import Derived.Deep.LoopGhost
import Derived.Laws.EntriesVeiled
namespace Go.Proofs.YtlfihdcgbhdajaaGreatDoor
open Go.RowKit
set_option linter.unusedVariables false
set_option linter.unusedSimpArgs false

theorem cell_lt {w : World} {a : Addr} {v : Value} (h : w.cell? a = some v) : a.block < w.heap.size := by
 rcases Nat.lt_or_ge a.block w.heap.size with hlt | hge
 ·exact hlt
 ·simp [World.cell?, Array.getElem?_eq_none hge] at h
theorem Ext.cell {w w' : World} (h : Ext w w') {a : Addr} {v : Value} (hc : w.cell? a = some v) : w'.cell? a = some v :=
 (Below.cell h (cell_lt hc)).trans hc
theorem Only.cell {w w' : World} {g : Nat} (h : Only g w w') {b o : Nat} {v : Value} (hb : ¬ b = g) (hc : w.cell? ⟨b, o, none⟩ = some v) : w'.cell? ⟨b, o, none⟩ = some v :=
 (h.cells.1 b o (cell_lt hc) hb).trans hc
theorem Only.set {g : Nat} {a w : World} (h : Only g a w) (i : Nat) (u : Value) : Only g a (w.setCell ⟨g, i, none⟩ u) := h.setCell (.inl rfl) u
def Gave (c : Int) (e : Ending) : Prop := e = .panicked [{ v := .iface 145 (.agg #[.int .i64 c]), recovered := false }]
theorem must_yes (c : Int) (w : World) : Calls Tryz.prog 76 #[.bool true, .int .i64 c] w fun e w' => e = .returned (.tuple #[]) ∧ w = w' := by
 go_enter Tryz.func76, Tryz.ntmps76
 go_wp2
 go_end0
 exact ⟨rfl, rfl⟩
theorem must_no (c : Int) (w : World) : Calls Tryz.prog 76 #[.bool false, .int .i64 c] w fun e w' => Gave c e ∧ w = w' := by
 go_enter Tryz.func76, Tryz.ntmps76
 go_wp2
 exact ⟨rfl, rfl, rfl⟩
end Go.Proofs.YtlfihdcgbhdajaaGreatDoor
namespace Go.Proofs.YtlfihdcgbhdajaaGreatDoor
open Go.RowKit
set_option linter.unusedVariables false
set_option linter.unusedSimpArgs false
end Go.Proofs.YtlfihdcgbhdajaaGreatDoor
namespace Go.Proofs.YtlfihdcgbhdajaaGreatDoor
open Go.RowKit
set_option linter.unusedVariables false
set_option linter.unusedSimpArgs false
theorem bytes_ext (w : World) (e : TypeId) (s : ByteArray) : Ext w (Lib.bytesWorld w e s) :=
 ⟨rfl, rfl, rfl, by rw [Lib.bytesWorld_size]; omega, fun k hk => Lib.bytesWorld_at_old w e s k hk⟩
end Go.Proofs.YtlfihdcgbhdajaaGreatDoor
namespace Go.Proofs.YtlfihdcgbhdajaaGreatDoor
open Go.RowKit
set_option linter.unusedVariables false
set_option linter.unusedSimpArgs false

end Go.Proofs.YtlfihdcgbhdajaaGreatDoor
namespace Go.Proofs.YtlfihdcgbhdajaaGreatDoor
open Go.RowKit
set_option linter.unusedVariables false
set_option linter.unusedSimpArgs false

end Go.Proofs.YtlfihdcgbhdajaaGreatDoor
namespace Go.Proofs.YtlfihdcgbhdajaaGreatDoor
open Go.RowKit
set_option linter.unusedVariables false
set_option linter.unusedSimpArgs false

def failV (c : Int) : Value := .iface 145 (.agg #[.int .i64 c])
theorem assert_fail (c : Int) (w : World) : (Instr.typeAssert (.iface 145 (.agg #[.int .i64 c])) 20 145 true).run Tryz.prog w = .ok (.tuple #[.agg #[.int .i64 c], .bool true]) w := by kernel_rfl
set_option maxRecDepth 100000 in
set_option maxHeartbeats 1000000 in
theorem caught_panic (c x : Int) (b : Nat) (older : List PanicEntry) (w : World) (hc : w.cell? ⟨b, 0, none⟩ = some (.int .i64 x)) (hz : w.frozen? ⟨b, 0, none⟩ = false) :
  CallsD Tryz.prog 74 #[.pointer (some ⟨b, 0, none⟩)] (.panicking ({ v := failV c, recovered := false } :: older)) w fun e u' w' =>
   e = .returned (.tuple #[]) ∧ u' = .panicking ({ v := failV c, recovered := true } :: older) ∧ w' = (w.setCell ⟨b, 0, none⟩ (.int .i64 c)).alloc (.cells #[.int .i64 c] 145) := by
 have hb := cell_lt hc
 have hne : ¬ b = w.heap.size := by simp only at hb; omega
 have ha := assert_fail c
 refine callsD_of_wpS Tryz.func74 rfl fun c₀ cs hu => ?_
 unfold failV at hu
 apply wpS_seq
 apply wpS_region
 simp [wpOpsS, go_sem, recoverD, hu, Tryz.ntmps74, Exit.thenS]
 refine wpS_of_wp ?_
 change Code.wp _ _ _ { tmps := #[.pointer (some ⟨b, 0, none⟩), undef, undef, undef, undef, .iface 145 (.agg #[.int .i64 c]), undef, undef, undef, undef, undef, undef, undef, undef, undef], defers := [] } w
 generalize hcs : ({ c₀ with mode := FrameMode.panicking ({ v := .iface 145 (.agg #[.int .i64 c]), recovered := true } :: older) } :: cs : List Frame) = cs'
 go_wp2_with fail
 subst hcs
 simp [bodyPostS, results, Tryz.results74, failV]
theorem caught_idle (b : Nat) (w : World) :
  CallsD Tryz.prog 74 #[.pointer (some ⟨b, 0, none⟩)] .returning w fun e u' w' => e = .returned (.tuple #[]) ∧ u' = .returning ∧ w' = w := by
 refine callsD_of_wpS Tryz.func74 rfl fun c₀ cs hu => ?_
 apply wpS_seq
 apply wpS_region
 simp [wpOpsS, go_sem, recoverD, hu, Tryz.ntmps74, Exit.thenS]
 refine wpS_of_wp ?_
 go_wp2_with fail
 cases c₀
 simp_all [bodyPostS, results, Tryz.results74]
end Go.Proofs.YtlfihdcgbhdajaaGreatDoor
namespace Go.Proofs.YtlfihdcgbhdajaaGreatDoor
open Go.RowKit
set_option linter.unusedVariables false
set_option linter.unusedSimpArgs false
structure BytesAt (w : World) (q : Option Addr) (cap : Nat) (l : List UInt8) : Prop where
 bytes : ∀ k (h : k < l.length), ∃ b o, q = some ⟨b, o, none⟩ ∧ w.cell? ⟨b, o + k, none⟩ = some (.int .u8 (l[k].toNat : Int))
 len : l.length ≤ 9223372036854775807
 slot : (q = none ∧ cap = 0) ∨ ∃ b o, q = some ⟨b, o, none⟩ ∧ b < w.heap.size
 room : l.length ≤ cap ∧ cap ≤ 9223372036854775807
theorem BytesAt.ext {w w' : World} {q : Option Addr} {cap : Nat} {l : List UInt8} (h : BytesAt w q cap l) (he : Ext w w') : BytesAt w' q cap l :=
 ⟨fun k hk => let ⟨b, o, e, c⟩ := h.bytes k hk; ⟨b, o, e, he.cell c⟩, h.len, h.slot.imp id (fun ⟨b, o, e, hb⟩ => ⟨b, o, e, Nat.lt_of_lt_of_le hb he.le⟩), h.room⟩
def TextsFrom (base : Nat) (w : World) (v : Value) (ts : List ByteArray) : Prop :=
 ∃ (q : Option Addr) (c : Nat), v = .slice q ts.length c ∧ (0 < ts.length → ∃ b, q = some ⟨b, 0, none⟩ ∧ base ≤ b ∧ ∀ i (h : i < ts.length), w.cell? ⟨b, i, none⟩ = some (.string ts[i]))
theorem TextsFrom.low {base : Nat} {w w' : World} {v : Value} {ts : List ByteArray} (h : TextsFrom base w v ts) (hc : ∀ b o x, base ≤ b → w.cell? ⟨b, o, none⟩ = some x → w'.cell? ⟨b, o, none⟩ = some x) : TextsFrom base w' v ts := by
 obtain ⟨q, c, e, h⟩ := h
 exact ⟨q, c, e, fun hl => let ⟨b, e, hb, hx⟩ := h hl; ⟨b, e, hb, fun i hi => hc _ _ _ hb (hx i hi)⟩⟩
def ParseE (w : World) (r : Except Int (List ByteArray × Nat)) (e : Ending) (w' : World) : Prop :=
 match r with
 | .ok x => ∃ v, e = .returned (.tuple #[v, .int .i64 (x.2 : Int), .int .i64 0]) ∧ TextsFrom w.heap.size w' v x.1 ∧ Ext w w'
 | .error c => e = .returned (.tuple #[.slice none 0 0, .int .i64 0, .int .i64 c]) ∧ Ext w w'
theorem ParseE.ok {w w' : World} {r : Except Int (List ByteArray × Nat)} {e : Ending} {x : List ByteArray × Nat} (hr : r = .ok x) (h : ∃ v, e = .returned (.tuple #[v, .int .i64 (x.2 : Int), .int .i64 0]) ∧ TextsFrom w.heap.size w' v x.1 ∧ Ext w w') : ParseE w r e w' := by
 subst hr; exact h
end Go.Proofs.YtlfihdcgbhdajaaGreatDoor
namespace Go.Proofs.YtlfihdcgbhdajaaGreatDoor
open Go.RowKit
set_option linter.unusedVariables false
set_option linter.unusedSimpArgs false
attribute [local go_sem ↓] Go.wp_at_zero Go.wp_at_succ

theorem cell_far {w : World} {b o b' o' : Nat} {v : Value} (h : ¬ b' = b) : (w.setCell ⟨b', o', none⟩ v).cell? ⟨b, o, none⟩ = w.cell? ⟨b, o, none⟩ :=
 World.cell?_setCell_other _ _ _ _ (fun e => h (congrArg Addr.block e))
theorem own_only {w w' : World} {base g : Nat} {e : TypeId} {s : Nat} {v : Value} {n : Nat} {xs : List Value} (h : w.ownsRow base e s v n xs) (ho : Only g w w') (hg : g < base) : w'.ownsRow base e s v n xs :=
 own_of_heap h fun k hk hl => ho.block k hl (fun e => by have := Option.some.inj e; omega)
end Go.Proofs.YtlfihdcgbhdajaaGreatDoor
namespace Go.Proofs.YtlfihdcgbhdajaaGreatDoor
open Go.RowKit
set_option linter.unusedVariables false
set_option linter.unusedSimpArgs false

end Go.Proofs.YtlfihdcgbhdajaaGreatDoor
namespace Go.Proofs.YtlfihdcgbhdajaaGreatDoor
open Go.RowKit
set_option linter.unusedVariables false
set_option linter.unusedSimpArgs false
attribute [local go_sem ↓] Go.wp_at_zero Go.wp_at_succ

def Rep.k : Rep → Int
 | .mk k _ _ _ => k
def Rep.n : Rep → Int
 | .mk _ n _ _ => n
def Rep.s : Rep → ByteArray
 | .mk _ _ s _ => s
def Rep.l : Rep → List Rep
 | .mk _ _ _ l => l
def ListAt (ok : Nat → Prop) (w : World) : Nat → Value → List Rep → Prop
 | 0, v, l => l = [] ∧ ∃ q c, v = .slice q 0 c
 | d + 1, v, l => ∃ (q : Option Addr) (c : Nat), v = .slice q l.length c ∧ (0 < l.length → ∃ b o, q = some ⟨b, o, none⟩ ∧ ok b ∧
   ∀ i (h : i < l.length), w.cell? ⟨b, o + i * 4, none⟩ = some (.int .i64 l[i].k) ∧ w.cell? ⟨b, o + i * 4 + 1, none⟩ = some (.int .i64 l[i].n) ∧ w.cell? ⟨b, o + i * 4 + 2, none⟩ = some (.string l[i].s) ∧ ∃ lv, w.cell? ⟨b, o + i * 4 + 3, none⟩ = some lv ∧ ListAt ok w d lv l[i].l)
def RepV (ok : Nat → Prop) (w : World) (d : Nat) (v : Value) (r : Rep) : Prop :=
 ∃ lv, v = .agg #[.int .i64 r.k, .int .i64 r.n, .string r.s, lv] ∧ ListAt ok w d lv r.l
theorem ListAt.keep {ok ok' : Nat → Prop} {w w' : World} (h : ∀ b o x, ok b → w.cell? ⟨b, o, none⟩ = some x → w'.cell? ⟨b, o, none⟩ = some x) (hk : ∀ b, b < w.heap.size → ok b → ok' b) : ∀ {d : Nat} {v : Value} {l : List Rep}, ListAt ok w d v l → ListAt ok' w' d v l
 | 0, _, _, hl => hl
 | d + 1, v, l, ⟨q, c, e, hq⟩ => ⟨q, c, e, fun h0 => by
   obtain ⟨b, o, e1, hb, hx⟩ := hq h0
   refine ⟨b, o, e1, hk b ?_ hb, fun i hi => ?_⟩
   ·have := cell_lt (hx 0 h0).1
    exact this
   ·obtain ⟨h1, h2, h3, lv, h4, h5⟩ := hx i hi
    exact ⟨h _ _ _ hb h1, h _ _ _ hb h2, h _ _ _ hb h3, lv, h _ _ _ hb h4, h5.keep h hk⟩⟩
theorem ListAt.ext {ok : Nat → Prop} {w w' : World} (he : Ext w w') {d : Nat} {v : Value} {l : List Rep} (h : ListAt ok w d v l) : ListAt ok w' d v l :=
 h.keep (fun _ _ _ _ hc => he.cell hc) (fun _ _ h => h)
theorem ListAt.slice {ok : Nat → Prop} {w : World} : ∀ {d : Nat} {v : Value} {l : List Rep}, ListAt ok w d v l → ∃ q c, v = .slice q l.length c
 | 0, _, _, ⟨rfl, q, c, e⟩ => ⟨q, c, e⟩
 | _ + 1, _, _, ⟨q, c, e, _⟩ => ⟨q, c, e⟩
theorem ListAt.deeper {ok : Nat → Prop} {w : World} : ∀ {d : Nat} {v : Value} {l : List Rep}, ListAt ok w d v l → ListAt ok w (d + 1) v l
 | 0, _, _, ⟨rfl, q, c, e⟩ => ⟨q, c, e, fun h => absurd h (by simp)⟩
 | d + 1, v, l, ⟨q, c, e, hq⟩ => ⟨q, c, e, fun h0 => by
   obtain ⟨b, o, e1, hb, hx⟩ := hq h0
   refine ⟨b, o, e1, hb, fun i hi => ?_⟩
   obtain ⟨h1, h2, h3, lv, h4, h5⟩ := hx i hi
   exact ⟨h1, h2, h3, lv, h4, h5.deeper⟩⟩
theorem ListAt.upto {ok : Nat → Prop} {w : World} {d e : Nat} {v : Value} {l : List Rep} (h : ListAt ok w d v l) (hd : d ≤ e) : ListAt ok w e v l := by
 induction hd with
 | refl => exact h
 | step _ ih => exact ih.deeper
theorem newR_at {W : World} {k : Nat} (h : k = W.heap.size) (t : TypeId) (cs : Array Value) : Blk (W.alloc (.cells cs t)) k t cs := by
 subst h; exact Blk.new W t cs
end Go.Proofs.YtlfihdcgbhdajaaGreatDoor
namespace Go.Proofs.YtlfihdcgbhdajaaGreatDoor
open Go.RowKit
set_option linter.unusedVariables false
set_option linter.unusedSimpArgs false

theorem nil_list (ok : Nat → Prop) (w : World) (d : Nat) : ListAt ok w d (.slice none 0 0) [] := by
 cases d with
 | zero => exact ⟨rfl, none, 0, rfl⟩
 | succ d => exact ⟨none, 0, rfl, fun h => absurd h (by simp)⟩
theorem put4 {w : World} {b : Nat} {a0 a1 a2 a3 : Value} (B : Blk w b 25 #[a0, a1, a2, a3]) (x0 x1 x2 x3 : Value) :
  Blk ((((w.setCell ⟨b, 0, none⟩ x0).setCell ⟨b, 1, none⟩ x1).setCell ⟨b, 2, none⟩ x2).setCell ⟨b, 3, none⟩ x3) b 25 #[x0, x1, x2, x3] := by
 simpa using (((B.set_ 0 x0).set_ 1 x1).set_ 2 x2).set_ 3 x3
end Go.Proofs.YtlfihdcgbhdajaaGreatDoor
namespace Go.Proofs.YtlfihdcgbhdajaaGreatDoor
open Go.RowKit
set_option linter.unusedVariables false
set_option linter.unusedSimpArgs false

end Go.Proofs.YtlfihdcgbhdajaaGreatDoor
namespace Go.Proofs.YtlfihdcgbhdajaaGreatDoor
open Go.RowKit
set_option linter.unusedVariables false
set_option linter.unusedSimpArgs false

theorem infoRep : (Tryz.prog.info? 25).map (fun i => (i.zero, i.size, i.bytes)) = some (some (.agg #[.int .i64 0, .int .i64 0, .string ⟨#[]⟩, .slice none 0 0]), 4, 56) := by kernel_rfl
def rowR (x : Rep × Value) : List Value := [.int .i64 x.1.k, .int .i64 x.1.n, .string x.1.s, x.2]
theorem rows_at : ∀ (xs : List (Rep × Value)) (i : Nat) (h : i < xs.length) (j : Nat), j < 4 → (xs.flatMap rowR)[i * 4 + j]? = (rowR xs[i])[j]?
 | x :: xs, 0, h, j, hj => by
  rw [List.flatMap_cons, List.getElem?_append_left (by simp [rowR]; omega)]; simp
 | x :: xs, i + 1, h, j, hj => by
  rw [List.flatMap_cons, List.getElem?_append_right (by simp [rowR]; omega)]
  have : (i + 1) * 4 + j - (rowR x).length = i * 4 + j := by simp [rowR]; omega
  rw [this, rows_at xs i (by simpa using h) j hj]; rfl
theorem Only.grown {g : Nat} {a b c : World} {row : Option Nat} (h : Only g a b) (hg : b.grownBy c row) (hr : ∀ x, row = some x → a.heap.size ≤ x) : Only g a c :=
 ⟨hg.os.trans h.os, hg.tape.trans h.tape, hg.output.trans h.output, Nat.le_trans h.size hg.size, fun k hk hn => (hg.block k (Nat.lt_of_lt_of_le hk h.size) (fun e => by have := hr k e.symm; omega)).trans (h.block k hk hn)⟩
end Go.Proofs.YtlfihdcgbhdajaaGreatDoor
namespace Go.Proofs.YtlfihdcgbhdajaaGreatDoor
open Go.RowKit
set_option linter.unusedVariables false
set_option linter.unusedSimpArgs false
attribute [local go_sem ↓] Go.wp_at_zero Go.wp_at_succ

end Go.Proofs.YtlfihdcgbhdajaaGreatDoor
namespace Go.Proofs.YtlfihdcgbhdajaaGreatDoor
open Go.RowKit
set_option linter.unusedVariables false
set_option linter.unusedSimpArgs false

end Go.Proofs.YtlfihdcgbhdajaaGreatDoor
