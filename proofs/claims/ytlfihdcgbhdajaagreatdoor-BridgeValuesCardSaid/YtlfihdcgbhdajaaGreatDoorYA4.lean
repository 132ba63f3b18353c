/- The table of powers of ten, as it lies in memory. strings.Builder at this dump: copyCheck and WriteString (the shelf's walk, turned to this program's own numbers). A request that is laid: whether it may be. A request that is laid: the walk of Request. -/
import Derived.Test.YtlfihdcgbhdajaaGreatDoorYShelf
import Derived.Test.YtlfihdcgbhdajaaGreatDoorYA1
import Derived.Lib.ItoaLen
import Derived.Lib.Builder
import Derived.Lib.AppendStr
import Derived.Lib.UnsafeStr
import Derived.Laws.Externs
import Derived.Test.YtlfihdcgbhdajaaGreatDoorYA3
import Derived.Test.YtlfihdcgbhdajaaGreatDoorYA2
import Derived.Deep.LoopGhost
namespace Go.Proofs.YtlfihdcgbhdajaaGreatDoor
open Go.RowKit
set_option linter.unusedVariables false
abbrev Pow (w : World) : Prop := Lib.TabIs Tryz.prog w "internal/strconv.uint64pow10" .u64 Lib.pow10Tab
theorem powG : Tryz.prog.globalNamed "internal/strconv.uint64pow10" = some 1 := by kernel_rfl
theorem Pow.of_same {w w' : World} (h : Pow w) (he : w'.heap[(1 : Nat)]? = w.heap[(1 : Nat)]?) : Pow w' := by
 unfold Pow Lib.TabIs World.var? at *
 simp only [powG, Option.bind_some] at *
 rw [he]; exact h
theorem Pow.block {w : World} (h : Pow w) : ∃ e f, w.heap[(1 : Nat)]? = some (.cells (Lib.pow10Tab.map fun z => Value.int .u64 z).toArray e f) := by
 unfold Pow Lib.TabIs World.var? at h
 simp only [powG, Option.bind_some] at h
 split at h
 ·rename_i c e f hc
  exact ⟨e, f, by rw [hc, Option.some.inj h]⟩
 ·cases h
theorem Pow.lt {w : World} (h : Pow w) : (1 : Nat) < w.heap.size := by
 obtain ⟨e, f, hc⟩ := h.block
 exact (Array.getElem?_eq_some_iff.1 hc).1
theorem Pow.ext {w w' : World} (h : Pow w) (he : Ext w w') : Pow w' := h.of_same (he.block _ h.lt)
theorem Pow.alloc {w : World} (h : Pow w) (o : Obj) : Pow (w.alloc o) := h.ext ((Ext.refl w).alloc o)
theorem Pow.only {w w' : World} {g : Nat} (h : Pow w) (he : Only g w w') (hg : (1 : Nat) ≠ g) : Pow w' := h.of_same (he.block _ h.lt (fun e => hg (Option.some.inj e)))
def itS (n : Int) : ByteArray := ⟨(Lib.itoa n).toArray⟩
theorem itoa_any (n : Int) (w : World) (ht : Pow w) (h0 : -9223372036854775808 ≤ n) (h1 : n ≤ 9223372036854775807) :
  Calls Tryz.prog 80 #[.int .i64 n] w fun e w' => e = .returned (.string (itS n)) ∧ Ext w w' := by
 refine (Tryz.strconv_Itoa n h0 h1 w ht).mono ?_
 rintro e w' ⟨rfl, k, os, rfl⟩
 exact ⟨rfl, (Ext.refl w).grow k os⟩
end Go.Proofs.YtlfihdcgbhdajaaGreatDoor
namespace Go.Proofs.YtlfihdcgbhdajaaGreatDoor
open Go.Shelf Go.RowKit
set_option linter.unusedVariables false
set_option linter.unusedSimpArgs false

theorem sizeBld : (Tryz.prog.info? 124).map (·.size) = some 2 := by kernel_rfl
theorem liesBld : liesAt Tryz.prog Tryz.prog.depth 124 (2 / Tryz.prog.cellsOf 124) 0 124 1 = true := by kernel_rfl
theorem infoByte : (Tryz.prog.info? 5).map (fun i => (i.zero, i.size, i.bytes)) = some (some (.int .u8 0), 1, 1) := by kernel_rfl
set_option maxHeartbeats 1000000 in
set_option maxRecDepth 100000 in
theorem bcheck_used (b : Nat) (w : World) (h0 : w.cell? ⟨b, 0, none⟩ = some (.pointer (some ⟨b, 0, none⟩))) :
  Calls Tryz.prog 92 #[.pointer (some ⟨b, 0, none⟩)] w fun e w' => e = .returned (.tuple #[]) ∧ w' = w := by
 obtain ⟨j, hj, _⟩ := Option.map_eq_some_iff.1 sizeBld
 go_enter Tryz.func92, Tryz.ntmps92
 go_wp2
 rw [Lib.run_neq_ptr_same w _ Tryz.underlying122 hj]
 go_wp2
 go_end0
 exact ⟨rfl, rfl⟩
set_option maxHeartbeats 1000000 in
set_option maxRecDepth 100000 in
theorem bcheck_fresh (b : Nat) (w : World) (h0 : w.cell? ⟨b, 0, none⟩ = some (.pointer none)) (hsh : w.shape? b = some (124, 2)) (hfz : w.frozen? ⟨b, 0, none⟩ = false) :
  Calls Tryz.prog 92 #[.pointer (some ⟨b, 0, none⟩)] w fun e w' => e = .returned (.tuple #[]) ∧ w' = w.setCell ⟨b, 0, none⟩ (.pointer (some ⟨b, 0, none⟩)) := by
 obtain ⟨j, hj, hjs⟩ := Option.map_eq_some_iff.1 sizeBld
 go_enter Tryz.func92, Tryz.ntmps92
 go_wp2
 rw [Lib.run_to_unsafe w ⟨b, 0, none⟩ Tryz.underlying122 Tryz.underlying166 hj (by rw [hjs]; decide) hsh (Nat.zero_lt_succ 1)]
 simp only [Result.andThen]
 rw [Oper.upon_value]
 go_wp2
 rw [run_callFunc_extern Tryz.func116 (by kernel_rfl) (by kernel_rfl) (by kernel_rfl) (e := Extern.AbiNoEscape.same) (by kernel_rfl)]
 rw [Lib.run_noEscape]
 simp only [Result.andThen]
 rw [Oper.upon_value]
 go_wp2
 rw [Lib.run_from_unsafe w ⟨b, 0, none⟩ Tryz.underlying166 Tryz.underlying122 hj hsh liesBld]
 simp only [Result.andThen]
 rw [Oper.upon_value]
 go_wp2
 go_end0
 exact ⟨rfl, rfl⟩
def Keep (w w' : World) : Prop := ∀ i t cs, Blk w i t cs → t ≠ 124 → t ≠ 5 → Blk w' i t cs
theorem Keep.refl (w : World) : Keep w w := fun _ _ _ h _ _ => h
theorem Keep.trans {a b c : World} (h : Keep a b) (k : Keep b c) : Keep a c := fun i t cs x h1 h2 => k i t cs (h i t cs x h1 h2) h1 h2
theorem Keep.ext {a b : World} (h : Ext a b) : Keep a b := fun i t cs x _ _ => x.ext h
theorem Keep.put {a b : World} {g : Nat} {cs : Array Value} {t : TypeId} (h : Keep a b) (hg : b.heap[g]? = some (.cells cs t (0, 0))) (ht : t = 124 ∨ t = 5) (p : Addr) (hp : p.block = g) (u : Value) : Keep a (b.setCell p u) := fun i t' cs' x h1 h2 => by
 have hx := h i t' cs' x h1 h2
 refine hx.far ?_ u
 rintro rfl
 subst hp
 unfold Blk at hx
 rw [hg] at hx
 have e : t = t' := by injection hx with hx; injection hx
 rcases ht with ht | ht
 ·exact h1 (e ▸ ht)
 ·exact h2 (e ▸ ht)
theorem bcheck_any (B b : Nat) (bs : List Value) (w : World) (h : Lib.IsBuilder 124 5 B b bs w) :
  Calls Tryz.prog 92 #[.pointer (some ⟨b, 0, none⟩)] w fun e w' => e = .returned (.tuple #[]) ∧ (Lib.BuilderAt 124 5 B b (.pointer (some ⟨b, 0, none⟩)) bs w' ∧ Below B w w' ∧ Keep w w') := by
 rcases h with h | h
 ·refine (bcheck_fresh b w h.cell0 h.shape h.frozen0).mono ?_
  rintro e w' ⟨rfl, rfl⟩
  obtain ⟨v, hb⟩ := h.2
  exact ⟨rfl, h.used _, (Below.refl B w).setCell (p := ⟨b, 0, none⟩) h.1 _, (Keep.refl w).put hb.1 (.inl rfl) _ rfl _⟩
 ·refine (bcheck_used b w h.cell0).mono ?_
  rintro e w' ⟨rfl, rfl⟩
  exact ⟨rfl, h, Below.refl B _, Keep.refl _⟩
set_option maxHeartbeats 2000000 in
set_option maxRecDepth 100000 in
theorem bwrite_any (B b : Nat) (bs : List Value) (s : ByteArray) (w : World) (h : Lib.IsBuilder 124 5 B b bs w) (hlen : bs.length + s.size ≤ 140737488355328) (hBw : B ≤ w.heap.size) :
  Calls Tryz.prog 77 #[.pointer (some ⟨b, 0, none⟩), .string s] w fun e w' => e = .returned (.tuple #[.int .i64 s.size, .nilIface]) ∧ (Lib.BuilderAt 124 5 B b (.pointer (some ⟨b, 0, none⟩)) (bs ++ Lib.strCells s) w' ∧ Below B w w' ∧ Keep w w') := by
 obtain ⟨i0, hi, hz0, hz1, hz2⟩ := info_parts infoByte
 go_enter Tryz.func77, Tryz.ntmps77
 go_wp2_with (go_at_call 92; refine (bcheck_any B b bs _ h).mono ?_)
 rintro e w1 ⟨rfl, h1, hb1, K1⟩
 obtain ⟨hB, v, hbk, hown, hne⟩ := h1
 have c0 : w1.cell? ⟨b, 0, none⟩ = some (.pointer (some ⟨b, 0, none⟩)) := by rw [Lib.cell_of_heap hbk]; rfl
 have c1 : w1.cell? ⟨b, 1, none⟩ = some v := by rw [Lib.cell_of_heap hbk]; rfl
 go_wp2_with (at_builtin; refine Lib.wpList_append_own_string _ rfl _ _ 103 9 rfl B 5 i0 Tryz.underlying103 Tryz.underlying9 hi hz0 hz1 hz2 _ _ _ rfl hown s rfl ?c3 ?c4 ?c5 ?_)
 case c3 => unfold maxLen; omega
 case c4 => omega
 case c5 => have := hb1.size; omega
 intro v' w2 hown' hgrow _
 have K2 : Hid (Keep w w2) := fun i t cs x h1 h2 => by
  have hx := K1 i t cs x h1 h2
  refine (hgrow.block i hx.lt ?_).trans hx
  intro e
  rcases hown.2 with ⟨rfl, _⟩ | ⟨g, cap, cur, rfl, _, hg, _⟩
  ·cases e
  ·cases e
   unfold Blk at hx
   rw [hg] at hx
   have e : (5 : TypeId) = t := by injection hx with hx; injection hx
   exact h2 e.symm
 clear K1
 have hlt : b < w1.heap.size := by
  rcases Nat.lt_or_ge b w1.heap.size with h' | h'
  ·exact h'
  ·simp [Array.getElem?_eq_none h'] at hbk
 have hb2 : w2.heap[b]? = some (.cells #[.pointer (some ⟨b, 0, none⟩), v] 124 (0, 0)) := by
  rw [hgrow.block b hlt (fun e => hne e.symm)]
  exact hbk
 have d0 : w2.cell? ⟨b, 0, none⟩ = some (.pointer (some ⟨b, 0, none⟩)) := by rw [Lib.cell_of_heap hb2]; rfl
 have d1 : w2.cell? ⟨b, 1, none⟩ = some v := by rw [Lib.cell_of_heap hb2]; rfl
 have f1 : w2.frozen? ⟨b, 1, none⟩ = false := Lib.frozen_of_heap hb2 1
 obtain ⟨ao, n', cap, rfl⟩ : ∃ ao n' cap, v' = .slice ao n' cap := by
  rcases hown'.2 with ⟨hv, _⟩ | ⟨g, cap, cur, hv, _⟩
  ·exact ⟨_, _, _, hv⟩
  ·exact ⟨_, _, _, hv⟩
 go_wp2
 go_ret2
 refine ⟨rfl, ?_, ?_, ?_⟩
 ·exact Lib.BuilderAt.put (T := 124) (e := 5) hB hb2 (bs' := bs ++ Lib.strCells s) (by simpa [Lib.strCells_length] using hown') (by decide)
 ·exact (hb1.grown hgrow (by have := hb1.size; omega) (fun k hk => (hown.lt k hk).1)).setCell (p := ⟨b, 1, none⟩) hB _
 ·exact K2.out.put hb2 (.inl rfl) _ rfl _
end Go.Proofs.YtlfihdcgbhdajaaGreatDoor
namespace Go.Proofs.YtlfihdcgbhdajaaGreatDoor
open Go.RowKit
set_option linter.unusedVariables false
set_option linter.unusedSimpArgs false

def TxAt (w : World) (v : Value) (ts : List ByteArray) : Prop :=
 ts.length ≤ 9223372036854775807 ∧ ∃ (q : Option Addr) (c : Nat), v = .slice q ts.length c ∧ (0 < ts.length → ∃ b o, q = some ⟨b, o, none⟩ ∧ ∀ i (h : i < ts.length), w.cell? ⟨b, o + i, none⟩ = some (.string ts[i]))
theorem TxAt.ext {w w' : World} {v : Value} {ts : List ByteArray} (h : TxAt w v ts) (he : Ext w w') : TxAt w' v ts := by
 obtain ⟨h0, q, c, e, h⟩ := h
 exact ⟨h0, q, c, e, fun hl => let ⟨b, o, e, hx⟩ := h hl; ⟨b, o, e, fun i hi => he.cell (hx i hi)⟩⟩
theorem TxAt.only {w w' : World} {g : Nat} {v : Value} {ts : List ByteArray} (h : TxAt w v ts) (ho : Only g w w') (hg : ∀ q c b o n, v = .slice q n c → q = some ⟨b, o, none⟩ → b ≠ g) : TxAt w' v ts := by
 obtain ⟨h0, q, c, e, h⟩ := h
 exact ⟨h0, q, c, e, fun hl => let ⟨b, o, e', hx⟩ := h hl; ⟨b, o, e', fun i hi => ho.cell (hg _ _ _ _ _ e e') (hx i hi)⟩⟩
end Go.Proofs.YtlfihdcgbhdajaaGreatDoor
namespace Go.Proofs.YtlfihdcgbhdajaaGreatDoor
open Go.RowKit
set_option linter.unusedVariables false
set_option linter.unusedSimpArgs false

def BytesV (base : Nat) (w : World) (v : Value) (l : List UInt8) : Prop :=
 ∃ q c, v = .slice q l.length c ∧ BytesAt w q c l ∧ (∀ b o, q = some ⟨b, o, none⟩ → base ≤ b)
theorem BytesV.ext {base : Nat} {w w' : World} {v : Value} {l : List UInt8} (h : BytesV base w v l) (he : Ext w w') : BytesV base w' v l :=
 let ⟨q, c, e, hb, hc⟩ := h; ⟨q, c, e, hb.ext he, hc⟩
theorem bytes_conv (w : World) (s : ByteArray) (hs : s.size ≤ 9223372036854775807) :
  BytesV w.heap.size (Lib.bytesWorld w 5 s) (.slice (some ⟨w.heap.size, 0, none⟩) s.size (grownCap w s.size 0 5)) s.data.toList := by
 have hl : s.data.toList.length = s.size := rfl
 refine ⟨_, _, by rw [hl], ⟨fun k hk => ⟨_, _, rfl, ?_⟩, by omega, .inr ⟨_, _, rfl, by rw [Lib.bytesWorld_size]; omega⟩, ⟨by rw [hl]; exact grownCap_ge w _ 0 _, by have := grownCap_le_maxLen w s.size 0 5 (by unfold maxLen; omega); unfold maxLen at this; omega⟩⟩, fun b o e => by cases e; omega⟩
 have := Lib.bytesWorld_cell w 5 s k hk
 rw [Nat.zero_add, this]
 simp [List.getD, List.getElem?_eq_getElem hk]
def reqOkB (ts : List ByteArray) : Bool := decide (1 ≤ ts.length) && decide (ts.length ≤ 65536) && decide (sumS ts ≤ 1048576)
theorem reqOk_iff (ts : List ByteArray) : reqOkB ts = true ↔ reqOk ts := by simp [reqOkB, reqOk, and_assoc]
def ReqE (w : World) (ts : List ByteArray) (e : Ending) (w' : World) : Prop :=
 Ext w w' ∧ (if reqOkB ts = true then ∃ v, e = .returned (.tuple #[v, .int .i64 0]) ∧ BytesV w.heap.size w' v (reqB ts) else e = .returned (.tuple #[.slice none 0 0, .int .i64 2]))
theorem ReqE.no {w w' : World} {ts : List ByteArray} {e : Ending} (h : ¬ reqOk ts) (he : e = .returned (.tuple #[.slice none 0 0, .int .i64 2])) (hw : Ext w w') : ReqE w ts e w' :=
 ⟨hw, by rw [if_neg (fun h' => h ((reqOk_iff ts).1 h'))]; exact he⟩
theorem ReqE.yes {w w' : World} {ts : List ByteArray} {e : Ending} (h : reqOk ts) (he : ∃ v, e = .returned (.tuple #[v, .int .i64 0]) ∧ BytesV w.heap.size w' v (reqB ts)) (hw : Ext w w') : ReqE w ts e w' :=
 ⟨hw, by rw [if_pos ((reqOk_iff ts).2 h)]; exact he⟩
theorem TxAt.blocks {w : World} {v : Value} {ts : List ByteArray} (h : TxAt w v ts) {g : Nat} (hg : w.heap.size ≤ g) : ∀ q c b o n, v = .slice q n c → q = some ⟨b, o, none⟩ → 0 < ts.length → b ≠ g := by
 obtain ⟨h0, q, c, e, hx⟩ := h
 rintro q' c' b o n rfl rfl hp
 injection e with e1 e2 e3
 obtain ⟨b', o', e', hx⟩ := hx hp
 rw [e'] at e1
 injection e1 with e1
 injection e1 with e1 e2
 have := cell_lt (hx 0 hp)
 simp only at this
 omega
theorem builder_ext {B b : Nat} {p : Value} {bs : List Value} {w w' : World} (h : Lib.BuilderAt 124 5 B b p bs w) (he : Ext w w') : Lib.BuilderAt 124 5 B b p bs w' := by
 obtain ⟨hB, v, hb, ho, hn⟩ := h
 have hlt : b < w.heap.size := by
  rcases Nat.lt_or_ge b w.heap.size with h | h
  ·exact h
  ·rw [Array.getElem?_eq_none h] at hb; cases hb
 exact ⟨hB, v, (he.block b hlt).trans hb, own_ext ho he, hn⟩
theorem Ext.below {a b c : World} {B : Nat} (h : Ext a b) (k : Below B b c) (hB : a.heap.size ≤ B) : Ext a c := Below.trans h (Below.mono k hB)
theorem textB_len (s : ByteArray) (h : s.size ≤ 1048576) : (textB s).length ≤ s.size + 26 := by
 have h1 := Lib.itoa_length_le (s.size : Int) (by omega) (by omega)
 rw [Lib.itoa_nonneg] at h1
 have h2 : s.data.toList.length = s.size := rfl
 simp only [textB, lineB, List.length_cons, List.length_append, List.length_nil]
 omega
theorem itS_size (n : Nat) : (itS (n : Int)).data.toList = Lib.decDigits n := by
 unfold itS; rw [Lib.itoa_nonneg]
theorem its_len (n : Nat) (h : n ≤ 9223372036854775807) : (itS (n : Int)).size ≤ 21 := by
 have := Lib.itoa_length_le (n : Int) (by omega) (by omega)
 show (Lib.itoa (n : Int)).toArray.size ≤ 21
 simpa using this
theorem app_size (a b : ByteArray) : (a ++ b).size = a.size + b.size := ByteArray.size_append
theorem app_list (a b : ByteArray) : (a ++ b).data.toList = a.data.toList ++ b.data.toList := by simp
def BldAt (B b : Nat) (l : List UInt8) (w : World) : Prop := Lib.IsBuilder 124 5 B b (Lib.byteCells l) w
theorem BldAt.ext {B b : Nat} {l : List UInt8} {w w' : World} (h : BldAt B b l w) (he : Ext w w') : BldAt B b l w' := h.imp (fun h => builder_ext h he) (fun h => builder_ext h he)
theorem BldAt.new (w : World) : BldAt w.heap.size w.heap.size [] (w.alloc (.cells #[.pointer none, .slice none 0 0] 124)) := Lib.fresh_isBuilder 124 5 w
theorem hwrite (B b : Nat) (l : List UInt8) (s : ByteArray) (w : World) (h : BldAt B b l w) (hlen : l.length + s.size ≤ 140737488355328) (hB : B ≤ w.heap.size) :
  Calls Tryz.prog 77 #[.pointer (some ⟨b, 0, none⟩), .string s] w fun e w' => e = .returned (.tuple #[.int .i64 s.size, .nilIface]) ∧ BldAt B b (l ++ s.data.toList) w' ∧ Below B w w' ∧ Keep w w' := by
 refine (bwrite_any B b (Lib.byteCells l) s w h (by rw [Lib.byteCells_length]; exact hlen) hB).mono ?_
 rintro e w' ⟨rfl, h1, h2, h3⟩
 refine ⟨rfl, .inr ?_, h2, h3⟩
 rw [Lib.byteCells_append, ← Lib.strCells_eq]
 exact h1
theorem hstring (B b : Nat) (l : List UInt8) (w : World) (h : BldAt B b l w) (hB : B ≤ w.heap.size) :
  Calls Tryz.prog 81 #[.pointer (some ⟨b, 0, none⟩)] w fun e w' => e = .returned (.string ⟨l.toArray⟩) ∧ Below B w w' := Tryz.Builder_String_any B b l w h hB
end Go.Proofs.YtlfihdcgbhdajaaGreatDoor
