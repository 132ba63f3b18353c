/- The table of powers of ten, as it lies in memory. A value as a text: by the program, by the document. The library's variables as they are laid. The library's rep. The library's char. -/
import Derived.Test.YtfagldjhibdfhaaGreatDoorYA7
import Derived.Test.YtfagldjhibdfhaaGreatDoorYA1
import Derived.Lib.ItoaLen
import Derived.Test.YtfagldjhibdfhaaGreatDoorYA4
import Derived.Test.YtfagldjhibdfhaaGreatDoorYA3
import Derived.StillTailTactics
namespace Go.Proofs.YtfagldjhibdfhaaGreatDoor
open Go.RowKit
set_option linter.unusedVariables false
abbrev Pow (w : World) : Prop := Lib.TabIs Tryz.prog w "internal/strconv.uint64pow10" .u64 Lib.pow10Tab
theorem powG : Tryz.prog.globalNamed "internal/strconv.uint64pow10" = some 1 := by kernel_rfl
theorem Pow.of_same {w w' : World} (h : Pow w) (he : w'.heap[(1 : Nat)]? = w.heap[(1 : Nat)]?) : Pow w' := by
 unfold Pow Lib.TabIs World.var? at *
 simp only [powG, Option.bind_some] at *
 rw [he]; exact h
theorem Pow.block {w : World} (h : Pow w) : ∃ e f, w.heap[(1 : Nat)]? = some (.cells (Lib.pow10Tab.map fun z => Value.int .u64 z).toArray e f) := by
 unfold Pow Lib.TabIs World.var? at h
 simp only [powG, Option.bind_some] at h
 split at h
 ·rename_i c e f hc
  exact ⟨e, f, by rw [hc, Option.some.inj h]⟩
 ·cases h
theorem Pow.lt {w : World} (h : Pow w) : (1 : Nat) < w.heap.size := by
 obtain ⟨e, f, hc⟩ := h.block
 exact (Array.getElem?_eq_some_iff.1 hc).1
theorem Pow.ext {w w' : World} (h : Pow w) (he : Ext w w') : Pow w' := h.of_same (he.block _ h.lt)
theorem Pow.alloc {w : World} (h : Pow w) (o : Obj) : Pow (w.alloc o) := h.ext ((Ext.refl w).alloc o)
theorem Pow.only {w w' : World} {g : Nat} (h : Pow w) (he : Only g w w') (hg : (1 : Nat) ≠ g) : Pow w' := h.of_same (he.block _ h.lt (fun e => hg (Option.some.inj e)))
end Go.Proofs.YtfagldjhibdfhaaGreatDoor
namespace Go.Proofs.YtfagldjhibdfhaaGreatDoor
open Go.RowKit
set_option linter.unusedVariables false
set_option linter.unusedSimpArgs false
structure LLaid (w : World) : Prop where
 pow : Pow w
 syn : ∃ te pe, w.cell? ⟨2, 0, none⟩ = some (.iface te pe)
 rng : ∃ te pe, w.cell? ⟨3, 0, none⟩ = some (.iface te pe)
 mx : ∃ m, w.cell? ⟨0, 0, none⟩ = some (.int .i64 m)
theorem cell_of_ext {w w' : World} {b o : Nat} {v : Value} (h : w.cell? ⟨b, o, none⟩ = some v) (he : Ext w w') : w'.cell? ⟨b, o, none⟩ = some v := by
 have hb : b < w.heap.size := by
  rcases Nat.lt_or_ge b w.heap.size with h1 | h1
  ·exact h1
  ·simp [World.cell?, Array.getElem?_eq_none h1] at h
 rw [he.cells.1 b o hb]; exact h
theorem LLaid.ext {w w' : World} (h : LLaid w) (he : Ext w w') : LLaid w' :=
 ⟨h.pow.ext he, let ⟨a, b, c⟩ := h.syn; ⟨a, b, cell_of_ext c he⟩, let ⟨a, b, c⟩ := h.rng; ⟨a, b, cell_of_ext c he⟩, let ⟨a, c⟩ := h.mx; ⟨a, cell_of_ext c he⟩⟩
theorem fint_any (n : Int) (w : World) (ht : Pow w) (hn : in64 n) :
  Calls Tryz.prog 92 #[.int .i64 n, .int .i64 10] w fun e w' => e = .returned (.string (ba (Lib.itoa n))) ∧ Ext w w' := by
 refine (Tryz.strconv_FormatInt_10 n hn.1 hn.2 w ht).mono ?_
 rintro e w' ⟨rfl, k, os, rfl⟩
 exact ⟨rfl, (Ext.refl w).grow k os⟩
theorem cases4 {k : Int} (h : 0 ≤ k ∧ k ≤ 4) : k = 0 ∨ k = 1 ∨ k = 2 ∨ k = 3 ∨ k = 4 := by omega
set_option maxRecDepth 100000 in
theorem told_any (v : Vl) (hk : 0 ≤ v.k ∧ v.k ≤ 4) (hn : in64 v.n) (w : World) (hL : Pow w) :
  Calls Tryz.prog 56 #[v.v] w fun e w' => e = .returned (.string (toldV v)) ∧ Ext w w' := by
 obtain ⟨k, n, s⟩ := v
 simp only at hk hn ⊢
 have HL := Lib.hid (hL.alloc (.cells #[.int .i64 k, .int .i64 n, .string s] 26))
 clear hL
 rcases cases4 hk with rfl | rfl | rfl | rfl | rfl
 ·go_enter Tryz.func56, Tryz.ntmps56
  go_wp2_with fail
  go_ret
  exact ⟨rfl, (Ext.refl w).alloc _⟩
 ·by_cases h1 : n = 1
  ·subst h1
   go_enter Tryz.func56, Tryz.ntmps56
   go_wp2_with fail
   refine (Tryz.strconv_FormatBool true _).mono ?_
   rintro e w1 ⟨rfl, rfl⟩
   go_wp2_with fail
   go_ret
   exact ⟨rfl, (Ext.refl w).alloc _⟩
  ·have h2 : (n == 1) = false := by simpa using h1
   have HQ : Hid (toldV ⟨1, n, s⟩ = sFalse) := Lib.hid (by unfold toldV; simp [h1])
   clear h1
   go_enter Tryz.func56, Tryz.ntmps56
   go_wp2_with fail
   refine (Tryz.strconv_FormatBool false _).mono ?_
   rintro e w1 ⟨rfl, rfl⟩
   go_wp2_with fail
   go_ret
   exact ⟨by rw [HQ.out]; rfl, (Ext.refl w).alloc _⟩
 ·go_enter Tryz.func56, Tryz.ntmps56
  go_wp2_with fail
  refine (fint_any n _ HL.out hn).mono ?_
  rintro e w1 ⟨rfl, e1⟩
  have E1 := Lib.hid (((Ext.refl w).alloc _).trans e1)
  clear e1
  go_wp2_with fail
  go_ret
  exact ⟨rfl, E1.out⟩
 ·go_enter Tryz.func56, Tryz.ntmps56
  go_wp2_with fail
  go_ret
  exact ⟨rfl, (Ext.refl w).alloc _⟩
 ·have HZ : Hid (¬ 9223372036854775807 < 6 + (ba (Lib.itoa n)).size) := Lib.hid (by rw [ba_size]; have := Lib.itoa_length_le n hn.1 hn.2; omega)
  go_enter Tryz.func56, Tryz.ntmps56
  go_wp2_with fail
  refine (fint_any n _ HL.out hn).mono ?_
  rintro e w1 ⟨rfl, e1⟩
  have E1 := Lib.hid (((Ext.refl w).alloc _).trans e1)
  clear e1
  have hz := HZ.out
  go_wp2_with fail
  go_ret
  exact ⟨rfl, E1.out⟩
theorem toldV_size (v : Vl) (hs : v.s.size ≤ 1048576) (hn : in64 v.n) : (toldV v).size ≤ 1048576 := by
 have := Lib.itoa_length_le v.n hn.1 hn.2
 unfold toldV
 split
 ·decide
 ·split
  ·split <;> decide
  ·split
   ·rw [ba_size]; omega
   ·split
    ·exact hs
    ·rw [ByteArray.size_append, ba_size]
     have : sTable.size = 6 := rfl
     omega
end Go.Proofs.YtfagldjhibdfhaaGreatDoor
namespace Go.Proofs.YtfagldjhibdfhaaGreatDoor
open Go.RowKit
set_option linter.unusedVariables false
set_option linter.unusedSimpArgs false

theorem list_nil {s : ByteArray} (h : s.toList = []) : s.data.toList = [] := by rw [toList_nil h]; rfl
theorem rep_some (H : Hp) (s : ByteArray) (n : Int) (c : Nat) (h : s.toList = [] ∧ c = 0 ∨ ¬ s.toList = [] ∧ max 0 n = c ∧ (c : Int) ≤ 1048576 / max 1 (s.size : Int)) :
  mkR H ⟨(Lib.repeatL s.data.toList c).toArray⟩ = repR H s n ∧ s.size * c ≤ 140737488355328 ∧ (⟨(Lib.repeatL s.data.toList c).toArray⟩ : ByteArray).size ≤ 1048576 := by
 rcases h with ⟨h0, rfl⟩ | ⟨h0, hc, hle⟩
 ·refine ⟨?_, by omega, by show (([] : List UInt8).toArray).size ≤ 1048576; decide⟩
  unfold repR repL
  rw [if_neg (fun e => e.2 (list_nil h0))]
  rfl
 ·have hl : s.data.toList ≠ [] := fun e => h0 (by rw [Lib.toList_data]; exact e)
  have hz : s.data.toList.length = s.size := rfl
  have h1 : 1 ≤ s.size := by rw [← hz]; exact List.length_pos_iff.2 hl
  have hm : max 1 (s.size : Int) = s.size := by omega
  rw [hm] at hle
  have hdiv : (c : Int) * s.size ≤ 1048576 := (Int.le_ediv_iff_mul_le (by omega)).1 hle
  have hmul : c * s.size ≤ 1048576 := by rw [← Int.natCast_mul] at hdiv; omega
  have hsz : (⟨(Lib.repeatL s.data.toList c).toArray⟩ : ByteArray).size = c * s.size := by
   show (Lib.repeatL s.data.toList c).toArray.size = _
   rw [List.size_toArray, Lib.repeatL_length]; rfl
  refine ⟨?_, by rw [Nat.mul_comm]; omega, by rw [hsz]; exact hmul⟩
  unfold repR repL
  by_cases hn : 0 < n
  ·have hcn : (c : Int) = n := by omega
   rw [if_pos ⟨hn, hl⟩, hz, if_neg (by rw [← hcn]; have := (Nat.le_div_iff_mul_le (by omega : 0 < s.size)).2 hmul; omega)]
   have : n.toNat = c := by omega
   rw [this]; rfl
  ·have hc0 : c = 0 := by omega
   rw [if_neg (fun e => hn e.1), hc0]; rfl
theorem rep_none (H : Hp) (s : ByteArray) (n : Int) (h0 : ¬ s.toList = []) (h : ¬ max 0 n ≤ 1048576 / max 1 (s.size : Int)) : repR H s n = .no H sLong := by
 have hl : s.data.toList ≠ [] := fun e => h0 (by rw [Lib.toList_data]; exact e)
 have hz : s.data.toList.length = s.size := rfl
 have h1 : 1 ≤ s.size := by rw [← hz]; exact List.length_pos_iff.2 hl
 have hm : max 1 (s.size : Int) = s.size := by omega
 rw [hm] at h
 have hq : (0 : Int) ≤ 1048576 / (s.size : Int) := Int.ediv_nonneg (by omega) (by omega)
 unfold repR repL
 have e : ((1048576 / s.size : Nat) : Int) = 1048576 / (s.size : Int) := by simp
 rw [if_pos ⟨by omega, hl⟩, hz, e, if_pos (by omega)]
set_option maxRecDepth 100000 in
set_option maxHeartbeats 1600000 in
theorem rep_do (g : Nat) (tv : Value) (rs : List (Nat × Nat)) (H : Hp) (w : World) (h : HeapIn w g tv rs H) (b o cap : Nat) (x0 x1 : Vl) (hs : x0.s.size ≤ 1048576) (hn : in64 x1.n) (a0 : ArgAt w b o x0) (a1 : ArgAt w b (o + 3) x1) :
  Calls Tryz.prog 61 #[.pointer (some ⟨g, 0, none⟩), .slice (some ⟨b, o, none⟩) 2 cap] w (DoE w g tv rs (repR H x0.s x1.n)) := by
 obtain ⟨k0, n0, s⟩ := x0
 obtain ⟨k1, n, s1⟩ := x1
 simp only at hs hn ⊢
 have HI0 := Lib.hid h
 have c2 := a0.s
 have c4 := a1.n
 simp only at c2 c4
 have hb := a0.lt
 obtain ⟨r, hr⟩ : ∃ r, repR H s n = r := ⟨_, rfl⟩
 have HI := Lib.hid (h.alloc (.cells #[.int .i64 0, .int .i64 0, .string ⟨#[]⟩] 26))
 have HB := Lib.hid (Blk.new w 26 #[.int .i64 0, .int .i64 0, .string ⟨#[]⟩])
 have HN : Hid (¬ Foot g tv rs w.heap.size) := Lib.hid (fun hx => Nat.lt_irrefl _ (h.low hx))
 have HW := Lib.hid ((Ext.refl w).alloc (.cells #[.int .i64 0, .int .i64 0, .string ⟨#[]⟩] 26))
 rcases Decidable.em (s.toList = []) with h0 | h0
 ·obtain ⟨k1, k2, k3⟩ := rep_some H s n 0 (.inl ⟨h0, rfl⟩)
  rw [hr] at k1 ⊢
  have HR : Hid (mkR H ⟨#[]⟩ = r) := Lib.hid k1
  clear a0 a1 h hr k1 k2 k3 hs hn
  go_enter Tryz.func61, Tryz.ntmps61
  go_wp2_with fail
  refine (must_yes _ _).mono ?_
  rintro e w1 ⟨rfl, rfl⟩
  go_wp2_with fail
  refine (Tryz.strings_Repeat_zero s _).mono ?_
  rintro e w1 ⟨rfl, rfl⟩
  go_wp2_with fail
  refine (make_step g tv rs H (⟨#[]⟩) _ HI.out (by decide)).mono ?_
  rintro e w2 ⟨rfl, s2⟩
  have hr : mkR H (⟨#[]⟩) = r := HR.out
  rw [hr] at s2 ⊢
  have S2 := Lib.hid (HS.pre HW.out s2)
  have B2 := Lib.hid (HB.out.step s2 HN.out)
  clear s2 hr HI HB
  rcases Decidable.em (r.w = sNone) with hw | hw
  ·have HWn := Lib.hid hw
   rw [hw]
   clear hw
   go_wp2_with fail
   refine (got_yes _ _).mono ?_
   rintro e w3 ⟨rfl, e3⟩
   have S3 := Lib.hid (S2.out.ext e3)
   obtain ⟨z0, z1, z2, y0, y1, y2⟩ := three (B2.out.ext e3)
   have hlt := (B2.out.ext e3).lt
   clear e3 S2 B2
   go_wp2_with fail
   exact bodyPost_ret (v := r.v.v) (by simp [results, Tryz.results61, go_sem, *]) rfl (DoE.yes HWn.out (S3.out.set3 (Nat.le_refl _) HN.out _ _ _))
  ·go_wp2_with fail
   refine (got_no _ _ hw _).mono ?_
   rintro e w3 ⟨rfl, e3⟩
   go_wp2_with fail
   exact ⟨rfl, DoE.no hw (S2.out.ext e3)⟩
 ·have hq2 : s.toList.isEmpty = false := by cases hw : s.toList with | nil => exact absurd hw h0 | cons _ _ => rfl
  by_cases hle : max 0 n ≤ 1048576 / max 1 (s.size : Int)
  ·obtain ⟨c, hc⟩ : ∃ c : Nat, max 0 n = c := ⟨(max 0 n).toNat, by omega⟩
   obtain ⟨k1, k2, k3⟩ := rep_some H s n c (.inr ⟨h0, hc, by rw [← hc]; exact hle⟩)
   have hd : decide (max 0 n ≤ 1048576 / max 1 (s.size : Int)) = true := decide_eq_true hle
   rw [hr] at k1 ⊢
   have HR := Lib.hid k1
   have HZ := Lib.hid (And.intro k2 k3)
   have HC := Lib.hid hc
   have HD := Lib.hid hd
   have hcm : (c : Int) ≤ 9223372036854775807 := by have := hn.2; omega
   clear a0 a1 h hr k1 k2 k3 hc hs hle hd hn
   go_enter Tryz.func61, Tryz.ntmps61
   go_wp2_with fail
   rw [HD.out]
   refine (must_yes _ _).mono ?_
   rintro e w1 ⟨rfl, rfl⟩
   go_wp2_with fail
   rw [HC.out]
   refine (Tryz.strings_Repeat s c _ (by omega) HZ.out.1).mono ?_
   rintro e w1 ⟨rfl, e1⟩
   have W1 := Lib.hid (HW.out.trans e1)
   replace HI := Lib.hid (HI.out.ext e1)
   replace HB := Lib.hid (HB.out.ext e1)
   replace HW := Lib.hid W1.out
   clear W1 e1
   go_wp2_with fail
   refine (make_step g tv rs H (⟨(Lib.repeatL s.data.toList c).toArray⟩) _ HI.out (by have := HZ.out.2; omega)).mono ?_
   rintro e w2 ⟨rfl, s2⟩
   have hr : mkR H (⟨(Lib.repeatL s.data.toList c).toArray⟩) = r := HR.out
   rw [hr] at s2 ⊢
   have S2 := Lib.hid (HS.pre HW.out s2)
   have B2 := Lib.hid (HB.out.step s2 HN.out)
   clear s2 hr HI HB
   rcases Decidable.em (r.w = sNone) with hw | hw
   ·have HWn := Lib.hid hw
    rw [hw]
    clear hw
    go_wp2_with fail
    refine (got_yes _ _).mono ?_
    rintro e w3 ⟨rfl, e3⟩
    have S3 := Lib.hid (S2.out.ext e3)
    obtain ⟨z0, z1, z2, y0, y1, y2⟩ := three (B2.out.ext e3)
    have hlt := (B2.out.ext e3).lt
    clear e3 S2 B2
    go_wp2_with fail
    exact bodyPost_ret (v := r.v.v) (by simp [results, Tryz.results61, go_sem, *]) rfl (DoE.yes HWn.out (S3.out.set3 (Nat.le_refl _) HN.out _ _ _))
   ·go_wp2_with fail
    refine (got_no _ _ hw _).mono ?_
    rintro e w3 ⟨rfl, e3⟩
    go_wp2_with fail
    exact ⟨rfl, DoE.no hw (S2.out.ext e3)⟩
  ·have hd : decide (max 0 n ≤ 1048576 / max 1 (s.size : Int)) = false := decide_eq_false hle
   have HV := Lib.hid (rep_none H s n h0 hle)
   have HD := Lib.hid hd
   clear a0 a1 h hr hs hle hd hn
   go_enter Tryz.func61, Tryz.ntmps61
   go_wp2_with fail
   rw [HD.out]
   refine (must_no _ _).mono ?_
   rintro e w1 ⟨rfl, rfl⟩
   go_wp2_with fail
   exact ⟨rfl, by rw [HV.out]; exact DoE.no (r := Rs.no H sLong) (show ¬ sLong = sNone from by decide) (HS.of_ext HI0.out HW.out)⟩
end Go.Proofs.YtfagldjhibdfhaaGreatDoor
namespace Go.Proofs.YtfagldjhibdfhaaGreatDoor
open Go.RowKit
set_option linter.unusedVariables false
set_option linter.unusedSimpArgs false


structure ArgsAt (w : World) (q : Option Addr) (l : List Vl) : Prop where
 len : l.length ≤ 1048576
 at_ : ∀ i x, l[i]? = some x → ∃ b o, q = some ⟨b, o, none⟩ ∧ ArgAt w b (o + i * 3) x
theorem ArgsAt.ext {w w' : World} {q : Option Addr} {l : List Vl} (h : ArgsAt w q l) (he : Ext w w') : ArgsAt w' q l :=
 ⟨h.len, fun i x hx => let ⟨b, o, e, a⟩ := h.at_ i x hx; ⟨b, o, e, a.ext he⟩⟩
set_option maxRecDepth 100000 in
set_option maxHeartbeats 1600000 in
theorem char_do (g : Nat) (tv : Value) (rs : List (Nat × Nat)) (H : Hp) (w : World) (h : HeapIn w g tv rs H) (q : Option Addr) (cap : Nat) (l : List Vl) (ha : ArgsAt w q l) (hn : ∀ x ∈ l, in64 x.n) :
  Calls Tryz.prog 68 #[.pointer (some ⟨g, 0, none⟩), .slice q l.length cap] w (DoE w g tv rs (charR H l)) := by
 have HA := Lib.hid ha
 have HNN := Lib.hid hn
 have hlen := ha.len
 have HI0 := Lib.hid h
 have HI := Lib.hid (h.alloc (.cells #[.int .i64 0, .int .i64 0, .string ⟨#[]⟩] 26))
 have HB := Lib.hid (Blk.new w 26 #[.int .i64 0, .int .i64 0, .string ⟨#[]⟩])
 have HN : Hid (¬ Foot g tv rs w.heap.size) := Lib.hid (fun hx => Nat.lt_irrefl _ (h.low hx))
 have HW := Lib.hid ((Ext.refl w).alloc (.cells #[.int .i64 0, .int .i64 0, .string ⟨#[]⟩] 26))
 obtain ⟨r, hr⟩ : ∃ r, charR H l = r := ⟨_, rfl⟩
 rw [hr]
 have HRR := Lib.hid hr
 clear ha hn h hr
 go_enter Tryz.func68, Tryz.ntmps68
 go_wp2_with fail
 go_loopw [5, 10] (fun v5 v10 wr => ∃ (i : Nat) (acc : List UInt8), v10 = .int .i64 (i : Int) ∧ i ≤ l.length ∧ acc.length = i ∧ Hid (charL ((l.take i).map (·.n)) = some acc) ∧ Hid (OwnB wr (w.heap.size + 1) v5 acc) ∧ Hid (Ext (w.alloc (.cells #[.int .i64 0, .int .i64 0, .string ⟨#[]⟩] 26)) wr)) (fun _ v10 _ => l.length - (intOf v10).toNat)
 case atStart => exact ⟨0, [], rfl, Nat.zero_le _, rfl, Lib.hid rfl, Lib.hid (OwnB.nil _ _), Lib.hid (Ext.refl _)⟩
 case round =>
  obtain ⟨i, acc, rfl, hi, hal, HC, HO, HE⟩ := hrel
  by_cases hlt : i < l.length
  ·obtain ⟨x, hx⟩ : ∃ x, l[i]? = some x := ⟨_, List.getElem?_eq_getElem hlt⟩
   obtain ⟨b, o, rfl, ax⟩ := HA.out.at_ i x hx
   have hbb := ax.lt
   have ax2 := (ax.ext HW.out).ext HE.out
   have c0 := ax2.k
   have c1 := ax2.n
   have c2 := ax2.s
   have hd : decide ((i : Int) < (l.length : Int)) = true := decide_eq_true (by omega)
   have hd' : decide (i < l.length) = true := decide_eq_true hlt
   have hxn := HNN.out x (List.mem_of_getElem? hx)
   have HX := Lib.hid hx
   obtain ⟨xk, xn, xs⟩ := x
   simp only at c0 c1 c2 hxn
   clear ax ax2 hx
   by_cases hr : 0 ≤ xn ∧ xn ≤ 255
   ·obtain ⟨c, rfl⟩ : ∃ c : UInt8, xn = (c.toNat : Int) := ⟨UInt8.ofNat xn.toNat, by
     have h1 : xn.toNat < 256 := by omega
     have h2 : (UInt8.ofNat xn.toNat).toNat = xn.toNat := by rw [UInt8.toNat_ofNat']; exact Nat.mod_eq_of_lt h1
     rw [h2]; omega⟩
    have hWI := Lib.hid (fun (W : World) => (within_any (c.toNat : Int) 0 255 W).mono (R' := fun e w' => e = .returned (.int .i64 (c.toNat : Int)) ∧ w' = W) fun e w' h => ⟨by rw [h.1, show max 0 (min (c.toNat : Int) 255) = c.toNat by omega], h.2.symm⟩)
    have hMY := Lib.hid (fun (W : World) => (must_yes sRange W).mono (R' := fun e w' => e = .returned (.tuple #[]) ∧ w' = W) fun e w' h => ⟨h.1, h.2.symm⟩)
    have hcc : (c.toNat : Int) ≤ 255 := by omega
    clear hr
    go_wp2_with fail
    go_quiet (first
     | (go_at_call 101; refine Calls.quiet_of_same (hWI.out _))
     | (go_at_call 62; refine Calls.quiet_of_same (hMY.out _)))
    have e0 : Ext wr ((wr.alloc (.cells #[.int .i64 xk, .int .i64 (c.toNat : Int), .string xs] 26)).drewN nq) := ((Ext.refl wr).alloc _).drewN nq
    have bx : Blk ((wr.alloc (.cells #[.int .i64 xk, .int .i64 (c.toNat : Int), .string xs] 26)).drewN nq) wr.heap.size 26 #[.int .i64 xk, .int .i64 (c.toNat : Int), .string xs] := Blk.new wr _ _
    generalize (wr.alloc (.cells #[.int .i64 xk, .int .i64 (c.toNat : Int), .string xs] 26)).drewN nq = w1 at e0 bx ⊢
    have b1 : w1.cell? ⟨wr.heap.size, 1, none⟩ = some (.int .i64 (c.toNat : Int)) := bx.cell 1
    have hlw := bx.lt
    obtain ⟨v', w2, hrun, happ⟩ := app_lit w1 135 (w.heap.size + 1) u5 acc [c] (HO.out.ext e0) (by have h1 := HE.out.le; have h2 := e0.le; rw [size_alloc] at h1; omega) (by simp; omega)
    have E2 := Lib.hid (happ.ext (HE.out.trans (e0.alloc _)) (by rw [size_alloc]; exact Nat.le_refl _))
    have HA2 := Lib.hid happ.own
    have HRUN := Lib.hid hrun
    clear happ hrun e0 bx c0 c1 c2
    go_wp2_with (at_builtin; refine wpList_append_run rfl _ _ 135 rfl _ _ _ _ rfl rfl HRUN.out ?_)
    go_roundw
    case rel => exact ⟨i + 1, acc ++ [c], by go_num, by omega, by simp; omega, Lib.hid (by rw [List.take_add_one, HX.out]; simp only [Option.toList_some, List.map_append, List.map_cons, List.map_nil]; rw [charL_snoc, HC.out]; simp; omega), HA2, E2⟩
    case measure => simp [intOf]; omega
   ·have hWI := Lib.hid (fun (W : World) => (within_any xn 0 255 W).mono (R' := fun e w' => e = .returned (.int .i64 (max 0 (min xn 255))) ∧ w' = W) fun e w' h => ⟨h.1, h.2.symm⟩)
    have hMN := Lib.hid (fun (W : World) => must_no sRange W)
    have hne : (xn == max 0 (min xn 255)) = false := by rw [beq_eq_false_iff_ne]; omega
    obtain ⟨y, hy⟩ : ∃ y, max 0 (min xn 255) = y := ⟨_, rfl⟩
    rw [hy] at hWI hne
    have HV : Hid (charR H l = Rs.no H sRange) := Lib.hid (by
     unfold charR
     have e1 : l.map (·.n) = ((l.take i).map (·.n) ++ [xn]) ++ (l.drop (i + 1)).map (·.n) := by
      rw [← List.map_singleton (f := fun x : Vl => x.n) (a := ⟨xk, xn, xs⟩), ← List.map_append, ← List.map_append]
      congr 1
      obtain ⟨hl, he⟩ := List.getElem?_eq_some_iff.1 HX.out
      rw [List.append_assoc]
      conv => lhs; rw [← List.take_append_drop i l, List.drop_eq_getElem_cons hl, he]
      rfl
     have e2 : charL ((l.take i).map (·.n) ++ [xn]) = none := by rw [charL_snoc, HC.out]; simp; omega
     rw [e1, charL_none _ _ e2])
    have HWR := Lib.hid (show Ext w wr from HW.out.trans HE.out)
    clear hr hxn hy
    go_wp2_with fail
    refine wp_region_any (by kernel_rfl) ?_
    change wpAny _ _ _ _ _ _ _ (World.drew _)
    refine wpAny_take (i := 0) (v := ?_) rfl (by kernel_rfl) (by kernel_rfl) (by kernel_rfl) (fun _ _ _ h => h) (Or.inl ⟨by rfl, (by intro w; go_simp; first | done | with_reducible rfl)⟩) ?_
    refine wpAny_take (i := 2) (v := ?_) rfl (by kernel_rfl) (by kernel_rfl) (by kernel_rfl) (fun _ _ _ h => h) (Or.inl ⟨by rfl, (by intro w; go_simp; first | done | with_reducible rfl)⟩) ?_
    refine wpAny_ready (rs := [1, 3]) (by kernel_rfl) (by simp) ?_
    refine AllReady.cons rfl (fun K hK => ?_) ?_
    ·go_simp
     refine hK _ _ ?_
     clear hK K
     refine wpAny_ready (rs := [3]) (by kernel_rfl) (by simp) ?_
     refine AllReady.cons rfl (fun K hK => ?_) ?_
     ·go_simp
      refine hK _ _ ?_
      clear hK K
      refine wpAny_ready (rs := [4]) (by kernel_rfl) (by simp) ?_
      refine AllReady.cons rfl (fun K hK => ?_) ?_
      ·go_simp
       refine (hWI.out _).mono ?_
       rintro e w4 ⟨rfl, rfl⟩
       refine hK _ _ ?_
       clear hK K
       refine wpAny_take (i := 5) (v := ?_) rfl (by kernel_rfl) (by kernel_rfl) (by kernel_rfl) (fun _ _ _ h => h) (Or.inl ⟨by rfl, (by intro w; go_simp; first | done | with_reducible rfl)⟩) ?_
       refine wpAny_ready (rs := [6]) (by kernel_rfl) (by simp) ?_
       refine AllReady.cons rfl (fun K hK => ?_) ?_
       ·go_simp
        refine (hMN.out _).mono ?_
        rintro e w5 ⟨rfl, rfl⟩
        exact ⟨rfl, by rw [← HRR.out, HV.out]; exact DoE.no (r := Rs.no H sRange) (show ¬ sRange = sNone from by decide) (HS.of_ext HI0.out (by repeat (first | exact HWR.out | refine Ext.drew ?_ | refine Ext.alloc ?_ _)))⟩
       ·skip
        exact AllReady.nil
      ·skip
       exact AllReady.nil
     ·skip
      exact AllReady.nil
    ·skip
     refine AllReady.cons rfl (fun K hK => ?_) ?_
     ·go_simp
      refine hK _ _ ?_
      clear hK K
      refine wpAny_ready (rs := [1, 4]) (by kernel_rfl) (by simp) ?_
      refine AllReady.cons rfl (fun K hK => ?_) ?_
      ·go_simp
       refine hK _ _ ?_
       clear hK K
       refine wpAny_ready (rs := [4]) (by kernel_rfl) (by simp) ?_
       refine AllReady.cons rfl (fun K hK => ?_) ?_
       ·go_simp
        refine (hWI.out _).mono ?_
        rintro e w4 ⟨rfl, rfl⟩
        refine hK _ _ ?_
        clear hK K
        refine wpAny_take (i := 5) (v := ?_) rfl (by kernel_rfl) (by kernel_rfl) (by kernel_rfl) (fun _ _ _ h => h) (Or.inl ⟨by rfl, (by intro w; go_simp; first | done | with_reducible rfl)⟩) ?_
        refine wpAny_ready (rs := [6]) (by kernel_rfl) (by simp) ?_
        refine AllReady.cons rfl (fun K hK => ?_) ?_
        ·go_simp
         refine (hMN.out _).mono ?_
         rintro e w5 ⟨rfl, rfl⟩
         exact ⟨rfl, by rw [← HRR.out, HV.out]; exact DoE.no (r := Rs.no H sRange) (show ¬ sRange = sNone from by decide) (HS.of_ext HI0.out (by repeat (first | exact HWR.out | refine Ext.drew ?_ | refine Ext.alloc ?_ _)))⟩
        ·skip
         exact AllReady.nil
       ·skip
        exact AllReady.nil
      ·skip
       refine AllReady.cons rfl (fun K hK => ?_) ?_
       ·go_simp
        refine (hWI.out _).mono ?_
        rintro e w4 ⟨rfl, rfl⟩
        refine hK _ _ ?_
        clear hK K
        refine wpAny_ready (rs := [1]) (by kernel_rfl) (by simp) ?_
        refine AllReady.cons rfl (fun K hK => ?_) ?_
        ·go_simp
         refine hK _ _ ?_
         clear hK K
         refine wpAny_take (i := 5) (v := ?_) rfl (by kernel_rfl) (by kernel_rfl) (by kernel_rfl) (fun _ _ _ h => h) (Or.inl ⟨by rfl, (by intro w; go_simp; first | done | with_reducible rfl)⟩) ?_
         refine wpAny_ready (rs := [6]) (by kernel_rfl) (by simp) ?_
         refine AllReady.cons rfl (fun K hK => ?_) ?_
         ·go_simp
          refine (hMN.out _).mono ?_
          rintro e w5 ⟨rfl, rfl⟩
          exact ⟨rfl, by rw [← HRR.out, HV.out]; exact DoE.no (r := Rs.no H sRange) (show ¬ sRange = sNone from by decide) (HS.of_ext HI0.out (by repeat (first | exact HWR.out | refine Ext.drew ?_ | refine Ext.alloc ?_ _)))⟩
         ·skip
          exact AllReady.nil
        ·skip
         exact AllReady.nil
       ·skip
        exact AllReady.nil
     ·skip
      exact AllReady.nil
  ·obtain rfl : i = l.length := by omega
   have hd : decide ((l.length : Int) < (l.length : Int)) = false := decide_eq_false (by omega)
   have hd' : decide (l.length < l.length) = false := decide_eq_false (by omega)
   have hcv := HO.out.conv
   have HV : Hid (mkR H ⟨acc.toArray⟩ = charR H l) := Lib.hid (by unfold charR; have := HC.out; rw [List.take_length] at this; rw [this]; rfl)
   have HZ : Hid ((⟨acc.toArray⟩ : ByteArray).size ≤ 1048576) := Lib.hid (by show acc.toArray.size ≤ _; rw [List.size_toArray]; omega)
   have HR : Hid (mkR H ⟨acc.toArray⟩ = r) := Lib.hid (HV.out.trans HRR.out)
   have e1 := HE.out
   have W1 := Lib.hid (HW.out.trans e1)
   replace HI := Lib.hid (HI.out.ext e1)
   replace HB := Lib.hid (HB.out.ext e1)
   replace HW := Lib.hid W1.out
   clear W1 e1
   clear HV HE HC HO hal
   go_wp2_with fail
   refine (make_step g tv rs H (⟨acc.toArray⟩) _ HI.out (by have := HZ.out; omega)).mono ?_
   rintro e w2 ⟨rfl, s2⟩
   have hr : mkR H (⟨acc.toArray⟩) = r := HR.out
   rw [hr] at s2 ⊢
   have S2 := Lib.hid (HS.pre HW.out s2)
   have B2 := Lib.hid (HB.out.step s2 HN.out)
   clear s2 hr HI HB
   rcases Decidable.em (r.w = sNone) with hw | hw
   ·have HWn := Lib.hid hw
    rw [hw]
    clear hw
    go_wp2_with fail
    refine (got_yes _ _).mono ?_
    rintro e w3 ⟨rfl, e3⟩
    have S3 := Lib.hid (S2.out.ext e3)
    obtain ⟨z0, z1, z2, y0, y1, y2⟩ := three (B2.out.ext e3)
    have hlt := (B2.out.ext e3).lt
    clear e3 S2 B2
    go_wp2_with fail
    exact bodyPost_ret (v := r.v.v) (by simp [results, Tryz.results68, go_sem, *]) rfl (DoE.yes HWn.out (S3.out.set3 (Nat.le_refl _) HN.out _ _ _))
   ·go_wp2_with fail
    refine (got_no _ _ hw _).mono ?_
    rintro e w3 ⟨rfl, e3⟩
    go_wp2_with fail
    exact ⟨rfl, DoE.no hw (S2.out.ext e3)⟩
end Go.Proofs.YtfagldjhibdfhaaGreatDoor
