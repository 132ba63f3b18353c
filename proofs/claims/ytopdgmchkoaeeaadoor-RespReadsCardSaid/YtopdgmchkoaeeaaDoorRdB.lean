/- Pieces of bytes, empty ones wherever they lie; a reader that is fed, its row written out. -/
import Derived.Test.YtopdgmchkoaeeaaDoorRdA
namespace Go.Proofs.YtopdgmchkoaeeaaDoor
open Go.RowKit
set_option linter.unusedVariables false
set_option linter.unusedSimpArgs false

theorem append_bytesR (w : World) (ty : TypeId) (base : Nat) (v : Value) (l : List UInt8) (ho : w.ownsRow base 5 1 v l.length (Lib.byteCells l)) (q : Option Addr) (c : Nat) (m : List UInt8) (hm : BytesAt w q c m)
    (hlen : l.length + m.length ≤ 140737488355328) (hbase : base ≤ w.heap.size) :
    ∃ v' w', (Builtin.append_ #[25, 25] ty #[v, .slice q m.length c]).run Tryd.prog w = .ok v' w' ∧ w'.ownsRow base 5 1 v' (l ++ m).length (Lib.byteCells (l ++ m)) ∧ w.grownBy w' v.ownBlock ∧ (v'.ownBlock = v.ownBlock ∨ v'.ownBlock = some w.heap.size) := by
  obtain ⟨i0, hi, hz0, hz1, hz2⟩ := info_parts infoU8
  rcases hm.slot with ⟨rfl, rfl⟩ | ⟨b, o, rfl, hb⟩
  · have hr := hm.room.1
    obtain rfl : m = [] := List.eq_nil_of_length_eq_zero (by omega)
    refine ⟨v, w, run_append_owned_none (P := Tryd.prog) w base 25 ty 5 i0 1 Tryd.underlying25 hi v l.length _ ho, by simpa using ho, World.grownBy.refl w _, .inl rfl⟩
  · obtain ⟨v', w', h1, h2, h3, _, h5⟩ := run_append_own_at (P := Tryd.prog) w base 25 ty 5 i0 (.int .u8 0) 1 1 Tryd.underlying25 hi hz0 hz1 hz2 rfl (by omega) v l.length (Lib.byteCells l) ho ⟨b, o, none⟩ m.length c (Lib.byteCells m) (by rw [Lib.byteCells_length]; omega) (bytes_news hm) (byte_one m) (by unfold maxLen; omega) (by omega) hbase
    exact ⟨v', w', h1, by rw [Lib.byteCells_append, List.length_append]; exact h2, h3, h5⟩
/-- A piece: bytes as they lie; an empty one may lie anywhere. -/
def PieceV (w : World) (q : Option Addr) (c : Nat) (m : List UInt8) : Prop := BytesAt w q c m ∨ (m = [] ∧ ∃ a, q = some a)
theorem PieceV.ext {w w' : World} {q : Option Addr} {c : Nat} {m : List UInt8} (h : PieceV w q c m) (he : Ext w w') : PieceV w' q c m := h.imp (fun h => h.ext he) id
theorem append_piece (w : World) (ty : TypeId) (base : Nat) (v : Value) (l : List UInt8) (ho : w.ownsRow base 5 1 v l.length (Lib.byteCells l)) (q : Option Addr) (c : Nat) (m : List UInt8) (hm : PieceV w q c m)
    (hlen : l.length + m.length ≤ 140737488355328) (hbase : base ≤ w.heap.size) :
    ∃ v' w', (Builtin.append_ #[25, 25] ty #[v, .slice q m.length c]).run Tryd.prog w = .ok v' w' ∧ w'.ownsRow base 5 1 v' (l ++ m).length (Lib.byteCells (l ++ m)) ∧ w.grownBy w' v.ownBlock ∧ (v'.ownBlock = v.ownBlock ∨ v'.ownBlock = some w.heap.size) := by
  rcases hm with hm | ⟨rfl, a, rfl⟩
  · exact append_bytesR w ty base v l ho q c m hm hlen hbase
  · obtain ⟨i0, hi, hz0, hz1, hz2⟩ := info_parts infoU8
    obtain ⟨v', w', h1, h2, h3, _, h5⟩ := run_append_own_at (P := Tryd.prog) w base 25 ty 5 i0 (.int .u8 0) 1 1 Tryd.underlying25 hi hz0 hz1 hz2 rfl (by omega) v l.length (Lib.byteCells l) ho a 0 c [] rfl (fun j u hu => by simp at hu) (fun u hu => by simp at hu) (by unfold maxLen; simp at hlen; omega) (by simp at hlen; omega) hbase
    exact ⟨v', w', h1, by simpa using h2, h3, h5⟩
theorem conv_piece {w : World} {q : Option Addr} {c : Nat} {m : List UInt8} (h : PieceV w q c m) : (convert 25 9 (.slice q m.length c)).run Tryd.prog w = .ok (.string ⟨m.toArray⟩) w := by
  rcases h with h | ⟨rfl, a, rfl⟩
  · exact conv_any h
  · have hl : (loadCells a 0).run Tryd.prog w = .ok #[] w := by
      have := run_loadCells_list (P := Tryd.prog) w a [] (fun j v hj => by simp at hj)
      simpa using this
    show (convert 25 9 (.slice (some a) 0 c)).run Tryd.prog w = .ok (.string ⟨([] : List UInt8).toArray⟩) w
    rw [run_convert_bytes_string w 25 9 5 _ 0 c Tryd.underlying25 Tryd.underlying5 Tryd.underlying9, run_bytesToString w _ 0 c [] (by simpa using hl)]
    rfl
/-- Feed: what becomes of the reader's row; all else is as it was. -/
def FeedR (w : World) (base g : Nat) (v : Value) (l : List UInt8) (c : Int) (w' : World) (v' : Value) : Prop :=
  Blk w' g 95 #[v', .bool true, .int .i64 c] ∧ w'.ownsRow base 5 1 v' l.length (Lib.byteCells l) ∧ (∀ k, k < w.heap.size → k ≠ g → v.ownBlock ≠ some k → w'.heap[k]? = w.heap[k]?) ∧ (v'.ownBlock = v.ownBlock ∨ v'.ownBlock = some w.heap.size) ∧ w'.os = w.os ∧ w'.tape = w.tape ∧ w'.output = w.output ∧ w.heap.size ≤ w'.heap.size
set_option maxRecDepth 100000 in
set_option maxHeartbeats 1000000 in
theorem feed_row (w : World) (base g : Nat) (v : Value) (l m : List UInt8) (c : Int) (q : Option Addr) (cp : Nat) (hb : Blk w g 95 #[v, .bool true, .int .i64 c]) (ho : w.ownsRow base 5 1 v l.length (Lib.byteCells l)) (hg : g < base) (hbase : base ≤ w.heap.size) (hm : BytesAt w q cp m) (hlen : l.length + m.length ≤ 140737488355328) :
    Calls Tryd.prog 24 #[.pointer (some ⟨g, 0, none⟩), .slice q m.length cp] w fun e w' => e = .returned (.int .i64 0) ∧ ∃ v', FeedR w base g v (l ++ m) c w' v' := by
  have HB := Lib.hid hb
  obtain ⟨v', w', hrun, hown, hgrow, hat⟩ := append_bytesR w 25 base v l ho q cp m hm hlen hbase
  obtain ⟨q1, c1, hv1, _⟩ := own_bytes ho
  obtain ⟨q2, c2, hv2, _⟩ := own_bytes hown
  have hne : v.ownBlock ≠ some g := fun e => by have := (ho.lt g e).1; omega
  have hrow := ho.lt
  subst hv1 hv2
  have b0 := hb.cell 0
  have b1 := hb.cell 1
  have b2 := hb.cell 2
  simp only [List.getElem?_toArray, List.getElem?_cons_zero, List.getElem?_cons_succ] at b0 b1 b2
  have B2 : Blk w' g 95 #[.slice q1 l.length c1, .bool true, .int .i64 c] := (hgrow.block g hb.lt (fun e => hne e.symm)).trans hb
  have y0 := B2.cell 0
  have z0 := B2.frozen 0
  simp only [List.getElem?_toArray, List.getElem?_cons_zero, List.getElem?_cons_succ] at y0
  have HR := Lib.hid hrun
  have HO2 := Lib.hid hown
  have HG := Lib.hid hgrow
  have HB2 := Lib.hid B2
  have HAT := Lib.hid hat
  have HGB := Lib.hid hg
  clear hb ho hm hrun hown hgrow B2 hrow hne hat hg
  go_enter Tryd.func24, Tryd.ntmps24
  go_wp2_with (at_builtin; refine wpList_append_run rfl _ _ 25 rfl _ _ _ _ rfl rfl HR.out ?_)
  go_wp2_with fail
  go_ret
  have hgs := HG.out.size
  refine ⟨rfl, .slice q2 (l ++ m).length c2, by simpa using HB2.out.set_ 0 (.slice q2 (l ++ m).length c2), own_set HO2.out HGB.out, fun k hk hn hv => ?_, HAT.out, HG.out.os, HG.out.tape, HG.out.output, by rw [World.size_setCell]; omega⟩
  rw [Below.heap_setCell w' ⟨g, 0, none⟩ _ k (by show k ≠ g; exact hn)]
  exact HG.out.block k hk (fun e => hv e.symm)
end Go.Proofs.YtopdgmchkoaeeaaDoor
