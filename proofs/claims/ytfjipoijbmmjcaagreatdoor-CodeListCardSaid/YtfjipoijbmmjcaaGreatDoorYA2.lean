/- The table of powers of ten, as it lies in memory. strings.Builder at this dump: copyCheck and WriteString (the shelf's walk, turned to this program's own numbers). -/
import Derived.Test.YtfjipoijbmmjcaaGreatDoorYShelf
import Derived.Test.YtfjipoijbmmjcaaGreatDoorYA1
import Derived.Lib.ItoaLen
import Derived.Lib.Builder
import Derived.Lib.AppendStr
import Derived.Lib.UnsafeStr
import Derived.Laws.Externs
namespace Go.Proofs.YtfjipoijbmmjcaaGreatDoor
open Go.RowKit
set_option linter.unusedVariables false
abbrev Pow (w : World) : Prop := Lib.TabIs Tryz.prog w "internal/strconv.uint64pow10" .u64 Lib.pow10Tab
theorem powG : Tryz.prog.globalNamed "internal/strconv.uint64pow10" = some 0 := by kernel_rfl
theorem Pow.of_same {w w' : World} (h : Pow w) (he : w'.heap[(0 : Nat)]? = w.heap[(0 : Nat)]?) : Pow w' := by
 unfold Pow Lib.TabIs World.var? at *
 simp only [powG, Option.bind_some] at *
 rw [he]; exact h
theorem Pow.block {w : World} (h : Pow w) : ∃ e f, w.heap[(0 : Nat)]? = some (.cells (Lib.pow10Tab.map fun z => Value.int .u64 z).toArray e f) := by
 unfold Pow Lib.TabIs World.var? at h
 simp only [powG, Option.bind_some] at h
 split at h
 ·rename_i c e f hc
  exact ⟨e, f, by rw [hc, Option.some.inj h]⟩
 ·cases h
theorem Pow.lt {w : World} (h : Pow w) : (0 : Nat) < w.heap.size := by
 obtain ⟨e, f, hc⟩ := h.block
 exact (Array.getElem?_eq_some_iff.1 hc).1
theorem Pow.ext {w w' : World} (h : Pow w) (he : Ext w w') : Pow w' := h.of_same (he.block _ h.lt)
theorem Pow.alloc {w : World} (h : Pow w) (o : Obj) : Pow (w.alloc o) := h.ext ((Ext.refl w).alloc o)
theorem Pow.only {w w' : World} {g : Nat} (h : Pow w) (he : Only g w w') (hg : (0 : Nat) ≠ g) : Pow w' := h.of_same (he.block _ h.lt (fun e => hg (Option.some.inj e)))
def itS (n : Int) : ByteArray := ⟨(Lib.itoa n).toArray⟩
theorem itoa_any (n : Int) (w : World) (ht : Pow w) (h0 : -9223372036854775808 ≤ n) (h1 : n ≤ 9223372036854775807) :
  Calls Tryz.prog 25 #[.int .i64 n] w fun e w' => e = .returned (.string (itS n)) ∧ Ext w w' := by
 refine (Tryz.strconv_Itoa n h0 h1 w ht).mono ?_
 rintro e w' ⟨rfl, k, os, rfl⟩
 exact ⟨rfl, (Ext.refl w).grow k os⟩
end Go.Proofs.YtfjipoijbmmjcaaGreatDoor
namespace Go.Proofs.YtfjipoijbmmjcaaGreatDoor
open Go.Shelf Go.RowKit
set_option linter.unusedVariables false
set_option linter.unusedSimpArgs false

theorem sizeBld : (Tryz.prog.info? 48).map (·.size) = some 2 := by kernel_rfl
theorem liesBld : liesAt Tryz.prog Tryz.prog.depth 48 (2 / Tryz.prog.cellsOf 48) 0 48 1 = true := by kernel_rfl
theorem infoByte : (Tryz.prog.info? 5).map (fun i => (i.zero, i.size, i.bytes)) = some (some (.int .u8 0), 1, 1) := by kernel_rfl
set_option maxHeartbeats 1000000 in
set_option maxRecDepth 100000 in
theorem bcheck_used (b : Nat) (w : World) (h0 : w.cell? ⟨b, 0, none⟩ = some (.pointer (some ⟨b, 0, none⟩))) :
  Calls Tryz.prog 31 #[.pointer (some ⟨b, 0, none⟩)] w fun e w' => e = .returned (.tuple #[]) ∧ w' = w := by
 obtain ⟨j, hj, _⟩ := Option.map_eq_some_iff.1 sizeBld
 go_enter Tryz.func31, Tryz.ntmps31
 go_wp2
 rw [Lib.run_neq_ptr_same w _ Tryz.underlying45 hj]
 go_wp2
 go_end0
 exact ⟨rfl, rfl⟩
set_option maxHeartbeats 1000000 in
set_option maxRecDepth 100000 in
theorem bcheck_fresh (b : Nat) (w : World) (h0 : w.cell? ⟨b, 0, none⟩ = some (.pointer none)) (hsh : w.shape? b = some (48, 2)) (hfz : w.frozen? ⟨b, 0, none⟩ = false) :
  Calls Tryz.prog 31 #[.pointer (some ⟨b, 0, none⟩)] w fun e w' => e = .returned (.tuple #[]) ∧ w' = w.setCell ⟨b, 0, none⟩ (.pointer (some ⟨b, 0, none⟩)) := by
 obtain ⟨j, hj, hjs⟩ := Option.map_eq_some_iff.1 sizeBld
 go_enter Tryz.func31, Tryz.ntmps31
 go_wp2
 rw [Lib.run_to_unsafe w ⟨b, 0, none⟩ Tryz.underlying45 Tryz.underlying93 hj (by rw [hjs]; decide) hsh (Nat.zero_lt_succ 1)]
 simp only [Result.andThen]
 rw [Oper.upon_value]
 go_wp2
 rw [run_callFunc_extern Tryz.func50 (by kernel_rfl) (by kernel_rfl) (by kernel_rfl) (e := Extern.AbiNoEscape.same) (by kernel_rfl)]
 rw [Lib.run_noEscape]
 simp only [Result.andThen]
 rw [Oper.upon_value]
 go_wp2
 rw [Lib.run_from_unsafe w ⟨b, 0, none⟩ Tryz.underlying93 Tryz.underlying45 hj hsh liesBld]
 simp only [Result.andThen]
 rw [Oper.upon_value]
 go_wp2
 go_end0
 exact ⟨rfl, rfl⟩
def Keep (w w' : World) : Prop := ∀ i t cs, Blk w i t cs → t ≠ 48 → t ≠ 5 → Blk w' i t cs
theorem Keep.refl (w : World) : Keep w w := fun _ _ _ h _ _ => h
theorem Keep.trans {a b c : World} (h : Keep a b) (k : Keep b c) : Keep a c := fun i t cs x h1 h2 => k i t cs (h i t cs x h1 h2) h1 h2
theorem Keep.ext {a b : World} (h : Ext a b) : Keep a b := fun i t cs x _ _ => x.ext h
theorem Keep.put {a b : World} {g : Nat} {cs : Array Value} {t : TypeId} (h : Keep a b) (hg : b.heap[g]? = some (.cells cs t (0, 0))) (ht : t = 48 ∨ t = 5) (p : Addr) (hp : p.block = g) (u : Value) : Keep a (b.setCell p u) := fun i t' cs' x h1 h2 => by
 have hx := h i t' cs' x h1 h2
 refine hx.far ?_ u
 rintro rfl
 subst hp
 unfold Blk at hx
 rw [hg] at hx
 have e : t = t' := by injection hx with hx; injection hx
 rcases ht with ht | ht
 ·exact h1 (e ▸ ht)
 ·exact h2 (e ▸ ht)
theorem bcheck_any (B b : Nat) (bs : List Value) (w : World) (h : Lib.IsBuilder 48 5 B b bs w) :
  Calls Tryz.prog 31 #[.pointer (some ⟨b, 0, none⟩)] w fun e w' => e = .returned (.tuple #[]) ∧ (Lib.BuilderAt 48 5 B b (.pointer (some ⟨b, 0, none⟩)) bs w' ∧ Below B w w' ∧ Keep w w') := by
 rcases h with h | h
 ·refine (bcheck_fresh b w h.cell0 h.shape h.frozen0).mono ?_
  rintro e w' ⟨rfl, rfl⟩
  obtain ⟨v, hb⟩ := h.2
  exact ⟨rfl, h.used _, (Below.refl B w).setCell (p := ⟨b, 0, none⟩) h.1 _, (Keep.refl w).put hb.1 (.inl rfl) _ rfl _⟩
 ·refine (bcheck_used b w h.cell0).mono ?_
  rintro e w' ⟨rfl, rfl⟩
  exact ⟨rfl, h, Below.refl B _, Keep.refl _⟩
set_option maxHeartbeats 2000000 in
set_option maxRecDepth 100000 in
theorem bwrite_any (B b : Nat) (bs : List Value) (s : ByteArray) (w : World) (h : Lib.IsBuilder 48 5 B b bs w) (hlen : bs.length + s.size ≤ 140737488355328) (hBw : B ≤ w.heap.size) :
  Calls Tryz.prog 14 #[.pointer (some ⟨b, 0, none⟩), .string s] w fun e w' => e = .returned (.tuple #[.int .i64 s.size, .nilIface]) ∧ (Lib.BuilderAt 48 5 B b (.pointer (some ⟨b, 0, none⟩)) (bs ++ Lib.strCells s) w' ∧ Below B w w' ∧ Keep w w') := by
 obtain ⟨i0, hi, hz0, hz1, hz2⟩ := info_parts infoByte
 go_enter Tryz.func14, Tryz.ntmps14
 go_wp2_with (go_at_call 31; refine (bcheck_any B b bs _ h).mono ?_)
 rintro e w1 ⟨rfl, h1, hb1, K1⟩
 obtain ⟨hB, v, hbk, hown, hne⟩ := h1
 have c0 : w1.cell? ⟨b, 0, none⟩ = some (.pointer (some ⟨b, 0, none⟩)) := by rw [Lib.cell_of_heap hbk]; rfl
 have c1 : w1.cell? ⟨b, 1, none⟩ = some v := by rw [Lib.cell_of_heap hbk]; rfl
 go_wp2_with (at_builtin; refine Lib.wpList_append_own_string _ rfl _ _ 46 9 rfl B 5 i0 Tryz.underlying46 Tryz.underlying9 hi hz0 hz1 hz2 _ _ _ rfl hown s rfl ?c3 ?c4 ?c5 ?_)
 case c3 => unfold maxLen; omega
 case c4 => omega
 case c5 => have := hb1.size; omega
 intro v' w2 hown' hgrow _
 have K2 : Hid (Keep w w2) := fun i t cs x h1 h2 => by
  have hx := K1 i t cs x h1 h2
  refine (hgrow.block i hx.lt ?_).trans hx
  intro e
  rcases hown.2 with ⟨rfl, _⟩ | ⟨g, cap, cur, rfl, _, hg, _⟩
  ·cases e
  ·cases e
   unfold Blk at hx
   rw [hg] at hx
   have e : (5 : TypeId) = t := by injection hx with hx; injection hx
   exact h2 e.symm
 clear K1
 have hlt : b < w1.heap.size := by
  rcases Nat.lt_or_ge b w1.heap.size with h' | h'
  ·exact h'
  ·simp [Array.getElem?_eq_none h'] at hbk
 have hb2 : w2.heap[b]? = some (.cells #[.pointer (some ⟨b, 0, none⟩), v] 48 (0, 0)) := by
  rw [hgrow.block b hlt (fun e => hne e.symm)]
  exact hbk
 have d0 : w2.cell? ⟨b, 0, none⟩ = some (.pointer (some ⟨b, 0, none⟩)) := by rw [Lib.cell_of_heap hb2]; rfl
 have d1 : w2.cell? ⟨b, 1, none⟩ = some v := by rw [Lib.cell_of_heap hb2]; rfl
 have f1 : w2.frozen? ⟨b, 1, none⟩ = false := Lib.frozen_of_heap hb2 1
 obtain ⟨ao, n', cap, rfl⟩ : ∃ ao n' cap, v' = .slice ao n' cap := by
  rcases hown'.2 with ⟨hv, _⟩ | ⟨g, cap, cur, hv, _⟩
  ·exact ⟨_, _, _, hv⟩
  ·exact ⟨_, _, _, hv⟩
 go_wp2
 go_ret2
 refine ⟨rfl, ?_, ?_, ?_⟩
 ·exact Lib.BuilderAt.put (T := 48) (e := 5) hB hb2 (bs' := bs ++ Lib.strCells s) (by simpa [Lib.strCells_length] using hown') (by decide)
 ·exact (hb1.grown hgrow (by have := hb1.size; omega) (fun k hk => (hown.lt k hk).1)).setCell (p := ⟨b, 1, none⟩) hB _
 ·exact K2.out.put hb2 (.inl rfl) _ rfl _
end Go.Proofs.YtfjipoijbmmjcaaGreatDoor
