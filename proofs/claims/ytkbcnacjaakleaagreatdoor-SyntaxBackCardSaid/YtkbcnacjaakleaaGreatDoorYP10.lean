/- The table of powers of ten, as it lies in memory. Words: strconv.ParseUint of 63 bits tells a word's number. Words: how many bytes of blanks and comments stand ahead, in the program. Words: the signs, in the program. Words: which texts are names, in the program. -/
import Derived.Test.YtkbcnacjaakleaaGreatDoorYShelf
import Derived.Test.YtkbcnacjaakleaaGreatDoorYP00
import Derived.Lib.ItoaLen
import Derived.Test.YtkbcnacjaakleaaGreatDoorYP09
import Derived.Test.YtkbcnacjaakleaaGreatDoorYP08
import Derived.Lib.AtoiErrMem
import Derived.Lib.IndexBytes
import Derived.Lib.IndexLaws
set_option maxRecDepth 100000
set_option maxHeartbeats 32000000
set_option linter.unusedVariables false
set_option linter.unusedSimpArgs false
namespace Go.Proofs.YtkbcnacjaakleaaGreatDoor
open Go.RowKit
abbrev Pow (w : World) : Prop := Lib.TabIs Tryz.prog w "internal/strconv.uint64pow10" .u64 Lib.pow10Tab
theorem powG : Tryz.prog.globalNamed "internal/strconv.uint64pow10" = some 2 := by kernel_rfl
theorem Pow.of_same {w w' : World} (h : Pow w) (he : w'.heap[(2 : Nat)]? = w.heap[(2 : Nat)]?) : Pow w' := by
 unfold Pow Lib.TabIs World.var? at *
 simp only [powG, Option.bind_some] at *
 rw [he]; exact h
theorem Pow.block {w : World} (h : Pow w) : ∃ e f, w.heap[(2 : Nat)]? = some (.cells (Lib.pow10Tab.map fun z => Value.int .u64 z).toArray e f) := by
 unfold Pow Lib.TabIs World.var? at h
 simp only [powG, Option.bind_some] at h
 split at h
 ·rename_i c e f hc
  exact ⟨e, f, by rw [hc, Option.some.inj h]⟩
 ·cases h
theorem Pow.lt {w : World} (h : Pow w) : (2 : Nat) < w.heap.size := by
 obtain ⟨e, f, hc⟩ := h.block
 exact (Array.getElem?_eq_some_iff.1 hc).1
theorem Pow.ext {w w' : World} (h : Pow w) (he : Ext w w') : Pow w' := h.of_same (he.block _ h.lt)
def itS (n : Int) : ByteArray := ⟨(Lib.itoa n).toArray⟩
theorem itoa_any (n : Int) (w : World) (ht : Pow w) (h0 : -9223372036854775808 ≤ n) (h1 : n ≤ 9223372036854775807) :
  Calls Tryz.prog 218 #[.int .i64 n] w fun e w' => e = .returned (.string (itS n)) ∧ Ext w w' := by
 refine (Tryz.strconv_Itoa n h0 h1 w ht).mono ?_
 rintro e w' ⟨rfl, k, os, rfl⟩
 exact ⟨rfl, (Ext.refl w).grow k os⟩
structure Laid (w : World) : Prop where
 asc : Asc w
 pow : Pow w
 syn : ∃ te pe, w.cell? ⟨6, 0, none⟩ = some (.iface te pe)
 rng : ∃ te pe, w.cell? ⟨7, 0, none⟩ = some (.iface te pe)
theorem cell_of_ext {w w' : World} {b o : Nat} {v : Value} (h : w.cell? ⟨b, o, none⟩ = some v) (he : Ext w w') : w'.cell? ⟨b, o, none⟩ = some v := by
 have hb : b < w.heap.size := by
  rcases Nat.lt_or_ge b w.heap.size with h1 | h1
  ·exact h1
  ·simp [World.cell?, Array.getElem?_eq_none h1] at h
 rw [he.cells.1 b o hb]; exact h
theorem Laid.ext {w w' : World} (h : Laid w) (he : Ext w w') : Laid w' :=
 ⟨h.asc.ext he, h.pow.ext he, let ⟨a, b, c⟩ := h.syn; ⟨a, b, cell_of_ext c he⟩, let ⟨a, b, c⟩ := h.rng; ⟨a, b, cell_of_ext c he⟩⟩
def numOf : Lib.NumEnd Nat → Option Nat
 | .ok v => some v
 | _ => none
theorem val_ge : ∀ (l : List UInt8) (n : Nat), n ≤ decVal l n
 | [], n => Nat.le_refl _
 | c :: l, n => by
  have := val_ge l (10 * n + (c.toNat - 48))
  show n ≤ decVal l (10 * n + (c.toNat - 48))
  omega
theorem num_parse : ∀ (l : List UInt8) (acc : Nat), acc ≤ 9223372036854775807 → numOf (Lib.parseUintM 9223372036854775807 acc l) = if l.all digB = true ∧ decVal l acc ≤ 9223372036854775807 then some (decVal l acc) else none
 | [], acc, h => by simp [Lib.parseUintM, numOf, decVal, h]
 | c :: l, acc, h => by
  have hs : decVal (c :: l) acc = decVal l (10 * acc + (c.toNat - 48)) := rfl
  by_cases hd : 48 ≤ c.toNat ∧ c.toNat ≤ 57
  ·have hg := val_ge l (10 * acc + (c.toNat - 48))
   have hdig : digB c = true := by simp [digB, hd]
   by_cases hcut : 1844674407370955162 ≤ acc
   ·rw [if_neg (by rw [hs]; omega)]
    simp [Lib.parseUintM, hd, hcut, numOf]
   ·by_cases hov : 9223372036854775807 < acc * 10 + (c.toNat - 48)
    ·rw [if_neg (by rw [hs]; omega)]
     simp [Lib.parseUintM, hd, hcut, hov, numOf]
    ·have ih := num_parse l (acc * 10 + (c.toNat - 48)) (by omega)
     have e : Lib.parseUintM 9223372036854775807 acc (c :: l) = Lib.parseUintM 9223372036854775807 (acc * 10 + (c.toNat - 48)) l := by simp [Lib.parseUintM, hd, hcut, hov]
     rw [e, ih, hs, Nat.mul_comm acc 10, List.all_cons, hdig, Bool.true_and]
  ·have hdig : digB c = false := by simp [digB]; omega
   rw [if_neg (by rw [List.all_cons, hdig]; simp)]
   simp [Lib.parseUintM, hd, numOf]
theorem num_numP (l : List UInt8) : numOf (Lib.parseUintM 9223372036854775807 0 l) = numP l := num_parse l 0 (by omega)
theorem Ext.bytes_world (w : World) (t : ByteArray) : Ext w (Lib.bytesWorld w 5 t) := Lib.bytesWorld_below w _ t
theorem parse63 (t : ByteArray) (hne : t.size ≠ 0) (hmax : t.size ≤ 281474976710656) (w : World) (hL : Laid w) :
  Calls Tryz.prog 226 #[.string t, .int .i64 10, .int .i64 63] w fun e w' => ∃ u ev, e = .returned (.tuple #[.int .u64 u, ev]) ∧ Ext w w' ∧ Hid ((∃ v : Nat, numP t.data.toList = some v ∧ u = v ∧ ev = .nilIface) ∨ (numP t.data.toList = none ∧ ∃ T p, ev = .iface T p)) := by
 have HL := Lib.hid hL
 clear hL
 obtain ⟨y, hy⟩ : ∃ y, Lib.parseUintM 9223372036854775807 0 t.data.toList = y := ⟨_, rfl⟩
 have hnum := num_numP t.data.toList
 rw [hy] at hnum
 have HY := Lib.hid hy
 have HNUM := Lib.hid hnum
 clear hy hnum
 rcases y with v | _ | _
 ·
  go_enter Tryz.func226, Tryz.ntmps226
  go_wp2_with fail
  refine (iparse63 t hne (by omega) _).mono ?_
  rintro e w' ⟨rfl, rfl⟩
  rw [HY.out]
  simp only [Lib.uintTupleM]
  go_wp2_with fail
  go_ret2
  exact ⟨_, _, rfl, Ext.bytes_world w t, Lib.hid (.inl ⟨v, by rw [← HNUM.out]; rfl, rfl, rfl⟩)⟩
 ·
  obtain ⟨te, pe, hc⟩ := (HL.out.ext (Ext.bytes_world w t)).syn
  have HC := Lib.hid hc
  clear hc
  go_enter Tryz.func226, Tryz.ntmps226
  go_wp2_with fail
  refine (iparse63 t hne (by omega) _).mono ?_
  rintro e w' ⟨rfl, rfl⟩
  rw [HY.out]
  simp only [Lib.uintTupleM]
  go_wp2_with fail
  refine (Tryz.strconv_toError_syntax _ t _ _ (.iface te pe) _ hmax HC.out (.inr ⟨te, pe, rfl⟩)).mono ?_
  rintro e w' ⟨nb, rfl, _, _, hb⟩
  have HB := Lib.hid hb
  clear hb
  go_wp2_with fail
  go_ret2
  exact ⟨_, _, rfl, (Ext.bytes_world w t).trans HB.out, Lib.hid (.inr ⟨by rw [← HNUM.out]; rfl, _, _, rfl⟩)⟩
 ·
  obtain ⟨te, pe, hc⟩ := (HL.out.ext (Ext.bytes_world w t)).rng
  have HC := Lib.hid hc
  clear hc
  go_enter Tryz.func226, Tryz.ntmps226
  go_wp2_with fail
  refine (iparse63 t hne (by omega) _).mono ?_
  rintro e w' ⟨rfl, rfl⟩
  rw [HY.out]
  simp only [Lib.uintTupleM]
  go_wp2_with fail
  refine (Tryz.strconv_toError_range _ t _ _ (.iface te pe) _ hmax HC.out (.inr ⟨te, pe, rfl⟩)).mono ?_
  rintro e w' ⟨nb, rfl, _, _, hb⟩
  have HB := Lib.hid hb
  clear hb
  go_wp2_with fail
  go_ret2
  exact ⟨_, _, rfl, (Ext.bytes_world w t).trans HB.out, Lib.hid (.inr ⟨by rw [← HNUM.out]; rfl, _, _, rfl⟩)⟩
theorem blank_true : ∀ l : List UInt8, (Lib.indexByte l 10 = -1 ∧ blankS true l = l.length) ∨ (∃ e : Nat, Lib.indexByte l 10 = e ∧ e < l.length ∧ blankS true l = e + blankS false (l.drop e))
 | [] => .inl ⟨rfl, rfl⟩
 | c :: l => by
  by_cases hc : c = 10
  ·subst hc
   exact .inr ⟨0, by simp [Lib.indexByte], by simp, by simp [blankS, blkB]⟩
  ·have hn : ¬ c.toNat = 10 := fun e => hc (u8_eq e)
   have hb : (c == (10 : UInt8)) = false := by simpa using hc
   have hs : blankS true (c :: l) = blankS true l + 1 := by simp [blankS, hn]
   rcases blank_true l with ⟨h1, h2⟩ | ⟨e, h1, h2, h3⟩
   ·refine .inl ⟨?_, by rw [hs, h2]; rfl⟩
    simp [Lib.indexByte, hb, hc, h1]
   ·refine .inr ⟨e + 1, ?_, by simp; omega, ?_⟩
    ·simp [Lib.indexByte, hb, hc, h1]
     try omega
    ·rw [hs, h3, List.drop_succ_cons]; omega
theorem pre_dash (c : UInt8) (l : List UInt8) : Lib.hasPrefix (c :: l) [45, 45] = decide (c.toNat = 45 ∧ (l.head?.map (·.toNat)) = some 45) := by
 unfold Lib.hasPrefix
 cases l with
 | nil => simp [List.isPrefixOf]
 | cons d l =>
  simp only [List.isPrefixOf, List.head?_cons, Option.map_some, Option.some.injEq, Bool.and_true]
  rw [Bool.eq_iff_iff]
  simp only [Bool.and_eq_true, beq_iff_eq, decide_eq_true_eq]
  exact ⟨fun h => ⟨by rw [← h.1]; rfl, by rw [← h.2]; rfl⟩, fun h => ⟨(u8_eq (by rw [h.1]; rfl)).symm, (u8_eq (by rw [h.2]; rfl)).symm⟩⟩
theorem blank_comment {c : UInt8} {l : List UInt8} (h : Lib.hasPrefix (c :: l) [45, 45] = true) : blankS false (c :: l) = blankS true (c :: l) ∧ ¬ c.toNat = 10 := by
 rw [pre_dash, decide_eq_true_eq] at h
 have h1 : blkB c = false := by simp [blkB]; omega
 exact ⟨by simp [blankS, h1, h], by omega⟩
theorem blank_blk {c : UInt8} {l : List UInt8} (h : blkB c = true) : blankS false (c :: l) = blankS false l + 1 := by simp [blankS, h]
theorem blank_none {c : UInt8} {l : List UInt8} (h1 : blkB c = false) (h : Lib.hasPrefix (c :: l) [45, 45] = false) : blankS false (c :: l) = 0 := by
 rw [pre_dash, decide_eq_false_iff_not] at h
 unfold blankS
 rw [if_neg (by rw [h1]; simp), if_neg h]
theorem blank_any (w : World) (s : ByteArray) (hs : s.size ≤ 9223372036854775806) : Calls Tryz.prog 173 #[.string s] w fun e w' => e = .returned (.int .i64 (blankS false s.data.toList : Int)) ∧ w = w' := by
 obtain ⟨n, hn⟩ : ∃ n, s.size = n := ⟨_, rfl⟩
 have hl : s.data.toList.length = n := hn
 obtain ⟨l, hL⟩ : ∃ l, s.data.toList = l := ⟨_, rfl⟩
 obtain ⟨r, hr⟩ : ∃ r, blankS false l = r := ⟨_, rfl⟩
 rw [hL, hr]
 have HR := Lib.hid hr
 have HL := Lib.hid hL
 rw [hL] at hl
 clear hr hL
 go_enter Tryz.func173, Tryz.ntmps173
 go_wp2_with fail
 go_loopw [3] (fun v3 wr => ∃ k : Nat, v3 = .int .i64 (k : Int) ∧ k ≤ n ∧ wr = w ∧ Hid (k + blankS false (l.drop k) = r)) (fun v3 _ => n - (intOf v3).toNat)
 case atStart => exact ⟨0, rfl, by omega, rfl, Lib.hid (by rw [List.drop_zero, HR.out]; omega)⟩
 case round =>
  obtain ⟨k, rfl, hk, rfl, HK⟩ := hrel
  by_cases hkn : k < n
  ·have d1 : decide ((k : Int) < (n : Int)) = true := decide_eq_true (by omega)
   have d1n : decide (k < n) = true := decide_eq_true hkn
   have hks : k < s.size := by omega
   obtain ⟨c, hc⟩ : ∃ c, s[k]'hks = c := ⟨_, rfl⟩
   obtain ⟨m, hm⟩ : ∃ m, l.drop (k + 1) = m := ⟨_, rfl⟩
   have hd : l.drop k = c :: m := by rw [List.drop_eq_getElem_cons (by omega), ← hc, hm]; congr 1; rw [← str_get]; exact get_of HL.out.symm _
   have hdl : m.length = n - (k + 1) := by rw [← hm, List.length_drop, hl]
   have hex : (s.extract k n).data.toList = c :: m := by rw [← hn, Lib.extract_to_end, HL.out, hd]
   have HC := Lib.hid hc
   have HD := Lib.hid hd
   have HM := Lib.hid hm
   have HDL := Lib.hid hdl
   have HX := Lib.hid hex
   have hcn := c.toNat_lt
   clear hd hm hdl hex
   by_cases e0 : c.toNat = 32
   ·have f0 : ((c.toNat : Int) == 32) = true := by rw [e0]; rfl
    have hbb : Hid (blkB c = true) := Lib.hid (by simp [blkB, e0])
    have E0 := Lib.hid e0
    clear e0
    go_wp2_with fail
    go_roundw
    case rel => exact ⟨k + 1, by simp, by omega, by first | rfl | trivial, Lib.hid (by have h := HK.out; rw [HD.out, blank_blk hbb.out] at h; rw [HM.out]; omega)⟩
    case measure => simp [intOf]; omega
   ·have f0 : ((c.toNat : Int) == 32) = false := by rw [beq_eq_false_iff_ne]; omega
    by_cases e1 : c.toNat = 9
    ·have f1 : ((c.toNat : Int) == 9) = true := by rw [e1]; rfl
     have hbb : Hid (blkB c = true) := Lib.hid (by simp [blkB, e1])
     have E1 := Lib.hid e1
     clear e1
     go_wp2_with fail
     go_roundw
     case rel => exact ⟨k + 1, by simp, by omega, by first | rfl | trivial, Lib.hid (by have h := HK.out; rw [HD.out, blank_blk hbb.out] at h; rw [HM.out]; omega)⟩
     case measure => simp [intOf]; omega
    ·have f1 : ((c.toNat : Int) == 9) = false := by rw [beq_eq_false_iff_ne]; omega
     by_cases e2 : c.toNat = 10
     ·have f2 : ((c.toNat : Int) == 10) = true := by rw [e2]; rfl
      have hbb : Hid (blkB c = true) := Lib.hid (by simp [blkB, e2])
      have E2 := Lib.hid e2
      clear e2
      go_wp2_with fail
      go_roundw
      case rel => exact ⟨k + 1, by simp, by omega, by first | rfl | trivial, Lib.hid (by have h := HK.out; rw [HD.out, blank_blk hbb.out] at h; rw [HM.out]; omega)⟩
      case measure => simp [intOf]; omega
     ·have f2 : ((c.toNat : Int) == 10) = false := by rw [beq_eq_false_iff_ne]; omega
      by_cases e3 : c.toNat = 13
      ·have f3 : ((c.toNat : Int) == 13) = true := by rw [e3]; rfl
       have hbb : Hid (blkB c = true) := Lib.hid (by simp [blkB, e3])
       have E3 := Lib.hid e3
       clear e3
       go_wp2_with fail
       go_roundw
       case rel => exact ⟨k + 1, by simp, by omega, by first | rfl | trivial, Lib.hid (by have h := HK.out; rw [HD.out, blank_blk hbb.out] at h; rw [HM.out]; omega)⟩
       case measure => simp [intOf]; omega
      ·have f3 : ((c.toNat : Int) == 13) = false := by rw [beq_eq_false_iff_ne]; omega
       have hbb : Hid (blkB c = false) := Lib.hid (by simp [blkB]; omega)
       have E0 := Lib.hid e0
       have E1 := Lib.hid e1
       have E2 := Lib.hid e2
       have E3 := Lib.hid e3
       clear e0 e1 e2 e3
       have dk : k ≤ s.size := by omega
       go_wp2_with fail
       refine (Tryz.strings_HasPrefix _ _ _).mono ?_
       rintro e w' ⟨rfl, rfl⟩
       obtain ⟨b, hb⟩ : ∃ b, Lib.hasPrefix (s.extract k n).data.toList [45, 45] = b := ⟨_, rfl⟩
       rw [show ((⟨#[45, 45]⟩ : ByteArray).data.toList) = [45, 45] from rfl]
       obtain ⟨b, hb⟩ : ∃ b, Lib.hasPrefix (s.extract k n).data.toList [45, 45] = b := ⟨_, rfl⟩
       have HB : Hid (Lib.hasPrefix (c :: m) [45, 45] = b) := Lib.hid (by rw [← HX.out]; exact hb)
       rw [hb]
       clear hb
       cases b
       ·go_wp2_with fail
        go_ret
        have h := HK.out
        rw [HD.out, blank_none hbb.out HB.out] at h
        exact ⟨ret_of (int_eq (by omega)), rfl⟩
       ·go_wp2_with fail
        refine (Tryz.strings_IndexByte _ _ _).mono ?_
        rintro e w' ⟨rfl, rfl⟩
        rw [HX.out, show ((10 : Int).toNat.toUInt8) = 10 from rfl]
        have hcm := blank_comment HB.out
        have h := HK.out
        rw [HD.out, hcm.1] at h
        have h10 := hcm.2
        rcases blank_true (c :: m) with ⟨i1, i2⟩ | ⟨e, i1, i2, i3⟩
        ·rw [i1]
         rw [i2] at h
         have hres : Hid (r = n) := Lib.hid (by have := HDL.out; simp at h; omega)
         clear h i1 i2 hcm h10
         go_wp2_with fail
         go_ret
         exact ⟨ret_of (int_eq (by rw [hres.out])), rfl⟩
        ·rw [i1]
         rw [i3] at h
         have he1 : 1 ≤ e := by
          rcases Nat.eq_zero_or_pos e with h0 | h0
          ·subst h0
           have := (Lib.indexByte_some i1).1
           simp at this
           exact absurd (by rw [this]; rfl) h10
          ·exact h0
         have hle : k + e ≤ n := by have := HDL.out; simp at i2; omega
         have HN : Hid ((k + e) + blankS false (l.drop (k + e)) = r) := Lib.hid (by rw [← List.drop_drop, HD.out]; omega)
         have de : decide ((e : Int) < 0) = false := decide_eq_false (by omega)
         clear h i1 i2 i3 hcm h10
         go_wp2_with fail
         go_roundw
         case rel => exact ⟨k + e, by simp, hle, by first | rfl | trivial, HN⟩
         case measure => simp [intOf]; omega
  ·have d1 : decide ((k : Int) < (n : Int)) = false := decide_eq_false (by omega)
   have d1n : decide (k < n) = false := decide_eq_false hkn
   go_wp2_with fail
   go_ret
   have h := HK.out
   rw [List.drop_eq_nil_of_le (by omega)] at h
   exact ⟨ret_of (int_eq (by have : blankS false [] = 0 := rfl; omega)), rfl⟩
def signW : List ByteArray := signL.map fun x => ⟨x.toArray⟩
def signV : Array Value := (signW.map Value.string).toArray
def signZ : Array Value := Array.replicate 24 (.string ⟨#[]⟩)
theorem signV_size : signV.size = 24 := rfl
theorem zeroS : (Tryz.prog.info? 183).map (fun i => (i.zero, i.size)) = some (some (.agg signZ), 24) := by kernel_rfl
theorem signs_any (w : World) : Calls Tryz.prog 157 #[] w fun e w' => e = .returned (.agg signV) ∧ Ext w w' := by
 obtain ⟨hz, hs⟩ := zero_of_info zeroS
 have HS := Lib.hid hs
 have hu := Tryz.underlying183
 have HU := Lib.hid hu
 clear hs hu
 go_enter Tryz.func157, Tryz.ntmps157
 go_wp2_with (first
  | (refine wpList_build_to rfl 183 _ rfl _ rfl (.agg signV) (by kernel_rfl) ?_)
  | (refine wpList_store_row rfl 183 _ _ rfl w.heap.size rfl signV signZ rfl _ (new_at rfl _) (HS.out.trans (by rw [signV_size])) (by kernel_rfl) (by kernel_rfl) ?_))
 exact bodyPost_ret (v := .agg signV) (results_cell_row rfl _ _ w.heap.size _ signV _ _ rfl (Blk.setRow (new_at rfl _) _) HU.out rfl (HS.out.trans (by rw [signV_size]))) rfl ⟨rfl, ((Ext.refl w).alloc _).setRow (Nat.le_refl _) _⟩
theorem name_not {l : List UInt8} {r : Bool} (hr : nameP l = r) (h : l.length = 0 ∨ 64 < l.length ∨ headB letB l = false ∨ keyB l = true) : r = false := by
 rw [← hr]
 unfold nameP
 rcases h with h | h | h | h
 ·have : l = [] := List.length_eq_zero_iff.1 h
  subst this; rfl
 ·have : decide (l.length ≤ 64) = false := decide_eq_false (by omega)
  simp [this]
 ·simp [h]
 ·simp [h]
theorem name_all {l : List UInt8} {r : Bool} (hr : nameP l = r) (h0 : l.length ≠ 0) (h1 : ¬ 64 < l.length) (h2 : headB letB l = true) (h3 : keyB l = false) : l.all wrdB = r := by
 rw [← hr]
 unfold nameP
 have e1 : l.isEmpty = false := by cases l with
  | nil => simp at h0
  | cons a l => rfl
 have e2 : decide (l.length ≤ 64) = true := decide_eq_true (by omega)
 simp [e1, e2, h2, h3]
theorem head_get {p : UInt8 → Bool} {l : List UInt8} (h : 0 < l.length) : headB p l = p (l[0]'h) := by
 cases l with
 | nil => simp at h
 | cons a l => rfl
theorem name_any (w : World) (s : ByteArray) (ha : Asc w) : Calls Tryz.prog 73 #[.string s] w fun e w' => e = .returned (.bool (nameP s.data.toList)) ∧ Ext w w' := by
 obtain ⟨n, hn⟩ : ∃ n, s.size = n := ⟨_, rfl⟩
 obtain ⟨l, hL⟩ : ∃ l, s.data.toList = l := ⟨_, rfl⟩
 have hl : l.length = n := by rw [← hL]; exact hn
 obtain ⟨r, hr⟩ : ∃ r, nameP l = r := ⟨_, rfl⟩
 rw [hL, hr]
 have HR := Lib.hid hr
 have HL := Lib.hid hL
 have HLL := Lib.hid hl
 have HA := Lib.hid ha
 clear hr hL hl ha
 by_cases h0 : n = 0
 ·subst h0
  have e0 : s.toList.isEmpty = true := by rw [str_empty, hn]; rfl
  have HN := Lib.hid hn
  clear hn
  go_enter Tryz.func73, Tryz.ntmps73
  go_wp2_with fail
  go_ret
  exact ⟨ret_of (bool_eq (name_not HR.out (.inl HLL.out)).symm), Ext.refl _⟩
 ·have e0 : s.toList.isEmpty = false := by rw [str_empty, hn]; exact decide_eq_false h0
  by_cases h64 : 64 < n
  ·have d64 : decide ((64 : Int) < (s.size : Int)) = true := decide_eq_true (by omega)
   have d64n : decide (64 < s.size) = true := decide_eq_true (by omega)
   have HN := Lib.hid hn
   clear hn
   go_enter Tryz.func73, Tryz.ntmps73
   go_wp2_with fail
   go_ret
   exact ⟨ret_of (bool_eq (name_not HR.out (.inr (.inl (by rw [HLL.out]; exact h64)))).symm), Ext.refl _⟩
  ·have d64 : decide ((64 : Int) < (s.size : Int)) = false := decide_eq_false (by omega)
   have d64n : decide (64 < s.size) = false := decide_eq_false (by omega)
   have hs0 : 0 < s.size := by omega
   have H0 : Hid (0 < l.length) := Lib.hid (by rw [HLL.out]; omega)
   obtain ⟨c, hc⟩ : ∃ c, s[0]'hs0 = c := ⟨_, rfl⟩
   have hc0 : headB letB l = letB c := by rw [head_get H0.out, ← hc, ← str_get s 0 hs0]; congr 1; exact get_of HL.out.symm _
   have HC := Lib.hid hc
   have HN := Lib.hid hn
   have HC0 := Lib.hid hc0
   clear hn hc hc0
   go_enter Tryz.func73, Tryz.ntmps73
   go_wp2_with fail
   rw [HC.out]
   refine (letter_any _ c).mono ?_
   rintro e w' ⟨rfl, rfl⟩
   obtain ⟨b, hb⟩ : ∃ b, letB c = b := ⟨_, rfl⟩
   have HB := Lib.hid hb
   rw [hb]
   clear hb
   cases b
   ·go_wp2_with fail
    go_ret
    exact ⟨ret_of (bool_eq (name_not HR.out (.inr (.inr (.inl (by rw [HC0.out, HB.out]))))).symm), Ext.refl _⟩
   ·go_wp2_with fail
    refine (language_any _ HA.out).mono ?_
    rintro e w1 ⟨rfl, he, hm⟩
    obtain ⟨b, hb⟩ : ∃ b, keyB l = b := ⟨_, rfl⟩
    have hk := any_keyW s
    rw [HL.out, hb] at hk
    have HK := Lib.hid hb
    clear hb
    have HE := Lib.hid he
    clear he
    cases b
    ·have lk := run_lookup_none Tryz.underlying70 Tryz.underlying9 rfl _ 19 _ (.string s) (.int .i64 0) (zero_int w1) hm (ones_no s keyW hk) false
     simp only [Bool.false_eq_true, if_false] at lk
     clear hm hk
     have HALL := Lib.hid (name_all HR.out (by have := H0.out; omega) (by rw [HLL.out]; exact h64) (by rw [HC0.out, HB.out]) HK.out)
     go_wp2_with fail
     go_loopw [25] (fun v wr => ∃ k : Nat, v = .int .i64 (k : Int) ∧ k ≤ n ∧ wr = w1 ∧ Hid ((l.drop k).all wrdB = r)) (fun v _ => n - (intOf v).toNat)
     case atStart => exact ⟨0, rfl, by omega, rfl, HALL⟩
     case round =>
      obtain ⟨k, rfl, hk, rfl, HK2⟩ := hrel
      by_cases hkn : k < n
      ·have HNN := HN.out
       have d1 : decide ((k : Int) < (s.size : Int)) = true := decide_eq_true (by omega)
       have d1n : decide (k < s.size) = true := decide_eq_true (by omega)
       have hks : k < s.size := by omega
       clear HNN
       obtain ⟨c, hc⟩ : ∃ c, s[k]'hks = c := ⟨_, rfl⟩
       have hkl : k < l.length := by rw [HLL.out]; exact hkn
       have hd : l.drop k = c :: l.drop (k + 1) := by rw [List.drop_eq_getElem_cons hkl, ← hc]; congr 1; rw [← str_get]; exact get_of HL.out.symm _
       have HC := Lib.hid hc
       have hrun := HK2.out
       rw [hd, List.all_cons] at hrun
       have HK := Lib.hid hrun
       clear hrun hd hc HK2 hkl
       go_wp2_with fail
       rw [HC.out]
       refine (letter_any _ c).mono ?_
       rintro e w' ⟨rfl, rfl⟩
       obtain ⟨b, hb⟩ : ∃ b, letB c = b := ⟨_, rfl⟩
       have HB := Lib.hid hb
       rw [hb]
       clear hb
       cases b
       ·go_wp2_with fail
        rw [HC.out]
        refine (digit_any _ c).mono ?_
        rintro e w' ⟨rfl, rfl⟩
        obtain ⟨b, hb⟩ : ∃ b, digB c = b := ⟨_, rfl⟩
        have HD := Lib.hid hb
        rw [hb]
        clear hb
        cases b
        ·go_wp2_with fail
         go_ret
         have hw : wrdB c = false := by unfold wrdB; rw [HB.out, HD.out]; rfl
         have h := HK.out
         rw [hw] at h
         exact ⟨ret_of (bool_eq h), HE.out⟩
        ·go_wp2_with fail
         go_roundw
         case rel =>
          have hw : wrdB c = true := by unfold wrdB; rw [HB.out, HD.out]; rfl
          have h := HK.out
          rw [hw] at h
          exact ⟨k + 1, by simp, by omega, by first | rfl | trivial, Lib.hid h⟩
         case measure => simp [intOf]; omega
       ·go_wp2_with fail
        go_roundw
        case rel =>
         have hw : wrdB c = true := by unfold wrdB; rw [HB.out]; rfl
         have h := HK.out
         rw [hw] at h
         exact ⟨k + 1, by simp, by omega, by first | rfl | trivial, Lib.hid h⟩
        case measure => simp [intOf]; omega
      ·have HNN := HN.out
       have d1 : decide ((k : Int) < (s.size : Int)) = false := decide_eq_false (by omega)
       have d1n : decide (k < s.size) = false := decide_eq_false (by omega)
       clear HNN
       have h := HK2.out
       rw [List.drop_eq_nil_of_le (by have := HLL.out; omega)] at h
       have HK := Lib.hid h
       clear h HK2
       go_wp2_with fail
       go_ret
       exact ⟨ret_of (bool_eq HK.out), HE.out⟩
    ·have lk := run_lookup_lit Tryz.underlying70 Tryz.underlying9 rfl _ 19 _ (.string s) (.int .i64 1) hm (ones_yes s keyW hk) false
     simp only [Bool.false_eq_true, if_false] at lk
     clear hm hk
     go_wp2_with fail
     go_ret
     exact ⟨ret_of (bool_eq (name_not HR.out (.inr (.inr (.inr HK.out)))).symm), HE.out⟩
end Go.Proofs.YtkbcnacjaakleaaGreatDoor
