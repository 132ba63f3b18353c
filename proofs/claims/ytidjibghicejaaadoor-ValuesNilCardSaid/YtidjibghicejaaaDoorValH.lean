/- Texts of values, numbers by operators. -/
import Derived.Test.YtidjibghicejaaaDoorValG
namespace Go.Proofs.YtidjibghicejaaaDoor
open Go.RowKit
set_option linter.unusedVariables false

/-- Is the table of powers of ten as the program's text lays it. -/
abbrev Pow (w : World) : Prop := Lib.TabIs Tryd.prog w "internal/strconv.uint64pow10" .u64 Lib.pow10Tab

theorem powG : Tryd.prog.globalNamed "internal/strconv.uint64pow10" = some 0 := by kernel_rfl
theorem Pow.of_same {w w' : World} (h : Pow w) (he : w'.heap[(0 : Nat)]? = w.heap[(0 : Nat)]?) : Pow w' := by
  unfold Pow Lib.TabIs World.var? at *
  simp only [powG, Option.bind_some] at *
  rw [he]; exact h
theorem Pow.block {w : World} (h : Pow w) : ∃ e f, w.heap[(0 : Nat)]? = some (.cells (Lib.pow10Tab.map fun z => Value.int .u64 z).toArray e f) := by
  unfold Pow Lib.TabIs World.var? at h
  simp only [powG, Option.bind_some] at h
  split at h
  · rename_i c e f hc
    exact ⟨e, f, by rw [hc, Option.some.inj h]⟩
  · cases h
theorem Pow.lt {w : World} (h : Pow w) : (0 : Nat) < w.heap.size := by
  obtain ⟨e, f, hc⟩ := h.block
  exact (Array.getElem?_eq_some_iff.1 hc).1
theorem Pow.ext {w w' : World} (h : Pow w) (he : Ext w w') : Pow w' := h.of_same (he.block _ h.lt)
theorem Pow.alloc {w : World} (h : Pow w) (o : Obj) : Pow (w.alloc o) := h.ext ((Ext.refl w).alloc o)
theorem Pow.only {w w' : World} {g : Nat} (h : Pow w) (he : Only g w w') (hg : (0 : Nat) ≠ g) : Pow w' := h.of_same (he.block _ h.lt (fun e => hg (Option.some.inj e)))
theorem Pow.ne {w : World} (h : Pow w) {g : Nat} {t : TypeId} {cs : Array Value} (hb : Blk w g t cs) (hn : ¬ cs.size = 20) : (0 : Nat) ≠ g := by
  rintro rfl
  obtain ⟨e, f, hc⟩ := h.block
  unfold Blk at hb
  rw [hc] at hb
  have := congrArg (fun o => match o with | some (Obj.cells c _ _) => c.size | _ => 0) hb
  simp [Lib.pow10Tab] at this
  omega

theorem fmt_any (n : Int) (w : World) (ht : Pow w) (h0 : -9223372036854775808 ≤ n) (h1 : n ≤ 9223372036854775807) :
    Calls Tryd.prog 51 #[.int .i64 n, .int .i64 10] w fun e w' => e = .returned (.string ⟨(Lib.itoa n).toArray⟩) ∧ Ext w w' := by
  refine (Tryd.strconv_FormatInt_10 n h0 h1 w ht).mono ?_
  rintro e w' ⟨rfl, k, os, rfl⟩
  exact ⟨rfl, (Ext.refl w).grow k os⟩

/-- A text or a number as a text. -/
def joinS (a : Vl) : ByteArray := if a.k = 3 then a.s else if a.k = 2 then ⟨(Lib.itoa a.n).toArray⟩ else sNone
def joinB (a : Vl) : Bool := a.k == 3 || a.k == 2

theorem joined_any (a : Vl) (w : World) (ht : Pow w) (h0 : -9223372036854775808 ≤ a.n) (h1 : a.n ≤ 9223372036854775807) :
    Calls Tryd.prog 64 #[a.v] w fun e w' => e = .returned (.tuple #[.string (joinS a), .bool (joinB a)]) ∧ Ext w w' := by
  obtain ⟨k, n, s⟩ := a
  by_cases h3 : k = 3
  · subst h3
    go_enter Tryd.func64, Tryd.ntmps64
    go_wp2
    go_ret2
    exact ⟨rfl, (Ext.refl w).alloc _⟩
  by_cases h2 : k = 2
  · subst h2
    go_enter Tryd.func64, Tryd.ntmps64
    go_wp2_with (first
      | (go_at_call 51; refine (fmt_any n _ (ht.alloc _) h0 h1).mono ?_; rintro e w' ⟨rfl, he⟩))
    go_ret2
    exact ⟨rfl, ((Ext.refl w).alloc _).trans he⟩
  · go_enter Tryd.func64, Tryd.ntmps64
    go_wp2
    go_ret2
    go_tidy
    exact ⟨ret2_of ⟨by simp [joinS, h2, h3, sNone], by simp [joinB, h2, h3]⟩, (Ext.refl w).alloc _⟩

/-- The reference: the text beside false is the value's. -/
def rjoinS (a : Vl) : ByteArray := if a.k = 2 then ⟨(Lib.itoa a.n).toArray⟩ else a.s
theorem rjoined_any (a : Vl) (w : World) (ht : Pow w) (h0 : -9223372036854775808 ≤ a.n) (h1 : a.n ≤ 9223372036854775807) :
    Calls Tryd.prog 29 #[a.v] w fun e w' => e = .returned (.tuple #[.string (rjoinS a), .bool (joinB a)]) ∧ Ext w w' := by
  obtain ⟨k, n, s⟩ := a
  by_cases h2 : k = 2
  · subst h2
    go_enter Tryd.func29, Tryd.ntmps29
    go_wp2_with (first
      | (go_at_call 51; refine (fmt_any n _ (ht.alloc _) h0 h1).mono ?_; rintro e w' ⟨rfl, he⟩))
    go_ret2
    exact ⟨rfl, ((Ext.refl w).alloc _).trans he⟩
  · have hb : (k == 2) = false := by simp [h2]
    go_enter Tryd.func29, Tryd.ntmps29
    go_wp2
    go_quiet (fail)
    go_wp2
    go_ret2
    go_tidy
    exact ⟨ret2_of ⟨by simp [rjoinS, h2], by simp [joinB, h2]⟩, ((Ext.refl w).alloc _).drewN _⟩
end Go.Proofs.YtidjibghicejaaaDoor
