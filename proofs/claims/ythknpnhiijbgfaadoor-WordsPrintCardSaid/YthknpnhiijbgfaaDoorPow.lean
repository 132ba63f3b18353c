/- The table of powers of ten, as it lies in memory. -/
import Derived.Test.YthknpnhiijbgfaaDoorShelf
import Derived.Test.YthknpnhiijbgfaaDoorBase
import Derived.Lib.ItoaLen
namespace Go.Proofs.YthknpnhiijbgfaaDoor
open Go.RowKit
set_option linter.unusedVariables false
/-- Is the table of powers of ten as the program's text lays it. -/
abbrev Pow (w : World) : Prop := Lib.TabIs Tryd.prog w "internal/strconv.uint64pow10" .u64 Lib.pow10Tab

theorem powG : Tryd.prog.globalNamed "internal/strconv.uint64pow10" = some 4 := by kernel_rfl
theorem Pow.of_same {w w' : World} (h : Pow w) (he : w'.heap[(4 : Nat)]? = w.heap[(4 : Nat)]?) : Pow w' := by
  unfold Pow Lib.TabIs World.var? at *
  simp only [powG, Option.bind_some] at *
  rw [he]; exact h
theorem Pow.block {w : World} (h : Pow w) : ∃ e f, w.heap[(4 : Nat)]? = some (.cells (Lib.pow10Tab.map fun z => Value.int .u64 z).toArray e f) := by
  unfold Pow Lib.TabIs World.var? at h
  simp only [powG, Option.bind_some] at h
  split at h
  · rename_i c e f hc
    exact ⟨e, f, by rw [hc, Option.some.inj h]⟩
  · cases h
theorem Pow.lt {w : World} (h : Pow w) : (4 : Nat) < w.heap.size := by
  obtain ⟨e, f, hc⟩ := h.block
  exact (Array.getElem?_eq_some_iff.1 hc).1
theorem Pow.ext {w w' : World} (h : Pow w) (he : Ext w w') : Pow w' := h.of_same (he.block _ h.lt)
theorem Pow.alloc {w : World} (h : Pow w) (o : Obj) : Pow (w.alloc o) := h.ext ((Ext.refl w).alloc o)
theorem Pow.only {w w' : World} {g : Nat} (h : Pow w) (he : Only g w w') (hg : (4 : Nat) ≠ g) : Pow w' := h.of_same (he.block _ h.lt (fun e => hg (Option.some.inj e)))
def itS (n : Int) : ByteArray := ⟨(Lib.itoa n).toArray⟩
theorem itoa_any (n : Int) (w : World) (ht : Pow w) (h0 : -9223372036854775808 ≤ n) (h1 : n ≤ 9223372036854775807) :
    Calls Tryd.prog 34 #[.int .i64 n] w fun e w' => e = .returned (.string (itS n)) ∧ Ext w w' := by
  refine (Tryd.strconv_Itoa n h0 h1 w ht).mono ?_
  rintro e w' ⟨rfl, k, os, rfl⟩
  exact ⟨rfl, (Ext.refl w).grow k os⟩
end Go.Proofs.YthknpnhiijbgfaaDoor
