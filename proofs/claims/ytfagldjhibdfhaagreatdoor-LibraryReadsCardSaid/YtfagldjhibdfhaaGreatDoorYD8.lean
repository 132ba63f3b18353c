/- The document's made, char. A text's bytes appended; the document's rep. The document's Number: the plain part. The document's Number. A block of zeros may be written: no row of a table lies in it. The document's Number of a text with a sign; of any text; tonumber. The document's tonumber. -/
import Derived.Test.YtfagldjhibdfhaaGreatDoorYD7
import Derived.Lib.ConvBytes
namespace Go.Proofs.YtfagldjhibdfhaaGreatDoor
open Go.RowKit
set_option linter.unusedVariables false
set_option linter.unusedSimpArgs false

structure ROnly (w : World) (g : Nat) (tv : Value) (w' : World) (c s : Int) : Prop where
 only : Only g w w'
 rb : RB w' g tv c s
theorem ROnly.ext {w w1 w2 : World} {g : Nat} {tv : Value} {c s : Int} (h : ROnly w g tv w1 c s) (he : Ext w1 w2) : ROnly w g tv w2 c s := ⟨h.only.ext he, h.rb.ext he⟩
theorem ROnly.pre {w w1 w2 : World} {g : Nat} {tv : Value} {c s : Int} (he : Ext w w1) (h : ROnly w1 g tv w2 c s) : ROnly w g tv w2 c s := ⟨(Only.of_ext he).trans h.only, h.rb⟩
theorem ROnly.setCell {w w1 : World} {g : Nat} {tv : Value} {c s : Int} (h : ROnly w g tv w1 c s) (hg : g < w.heap.size) {p : Addr} (hp : w.heap.size ≤ p.block) (u : Value) : ROnly w g tv (w1.setCell p u) c s :=
 ⟨h.only.setCell (.inr hp) u, h.rb.far (by omega) u⟩
theorem ROnly.set3 {w w1 : World} {g k : Nat} {tv : Value} {c s : Int} (h : ROnly w g tv w1 c s) (hg : g < w.heap.size) (hp : w.heap.size ≤ k) (u0 u1 u2 : Value) : ROnly w g tv (((w1.setCell ⟨k, 0, none⟩ u0).setCell ⟨k, 1, none⟩ u1).setCell ⟨k, 2, none⟩ u2) c s :=
 ((h.setCell hg (p := ⟨k, 0, none⟩) hp u0).setCell hg (p := ⟨k, 1, none⟩) hp u1).setCell hg (p := ⟨k, 2, none⟩) hp u2
theorem ROnly.rs {w w' : World} {g : Nat} {tv : Value} {H : Hp} {s : ByteArray} (h : RHeapIn w g tv H) (a : ROnly w g tv w' H.cells (mkC H.cells H.spent s)) : RS w g tv w' tv (mkR H s).H :=
 ⟨h.only a.only _ _ a.rb (mkC_le h.ok.le h.ok.low).1 (mkC_le h.ok.le h.ok.low).2 h.ok.most, .only a.only (.inl rfl), fun _ hx => .inl hx⟩
def MadeE (w : World) (g : Nat) (tv : Value) (H : Hp) (s : ByteArray) (e : Ending) (w' : World) : Prop :=
 e = .returned (.tuple #[(mkR H s).v.v, .string (mkR H s).w]) ∧ ROnly w g tv w' H.cells (mkC H.cells H.spent s)
theorem MadeE.rd {w w' : World} {g : Nat} {tv : Value} {H : Hp} {s : ByteArray} {e : Ending} (h : RHeapIn w g tv H) (a : MadeE w g tv H s e w') : RdE w g tv (mkR H s) e w' :=
 ⟨by rw [mkR_zero]; exact a.1, (a.2.rs h).step⟩
theorem MadeE.pre {w w1 w' : World} {g : Nat} {tv : Value} {H : Hp} {s : ByteArray} {e : Ending} (he : Ext w w1) (a : MadeE w1 g tv H s e w') : MadeE w g tv H s e w' := ⟨a.1, .pre he a.2⟩
theorem rmake_only (g : Nat) (tv : Value) (H : Hp) (s : ByteArray) (w : World) (h : RHeapIn w g tv H) (hz : s.size ≤ 9223372036854775807) :
  Calls Tryz.prog 162 #[.pointer (some ⟨g, 0, none⟩), .string s] w (MadeE w g tv H s) :=
 (rmake_any g tv H.cells H.spent s w h.head h.ok.low h.ok.le h.ok.most hz).mono fun e w' ⟨he, ho, hb⟩ => ⟨he, ho, hb⟩
set_option maxRecDepth 100000 in
set_option maxHeartbeats 1000000 in
theorem rmade_any (g : Nat) (tv : Value) (H : Hp) (s : ByteArray) (w : World) (h : RHeapIn w g tv H) (hz : s.size ≤ 9223372036854775807) :
  Calls Tryz.prog 113 #[.pointer (some ⟨g, 0, none⟩), .string s] w (MadeE w g tv H s) := by
 have HB := Lib.hid (Blk.new w 26 #[.int .i64 0, .int .i64 0, .string ⟨#[]⟩])
 have HW := Lib.hid ((Ext.refl w).alloc (.cells #[.int .i64 0, .int .i64 0, .string ⟨#[]⟩] 26))
 have HM := Lib.hid (rmake_only g tv H s (w.alloc (.cells #[.int .i64 0, .int .i64 0, .string ⟨#[]⟩] 26)) (h.ext HW.out) hz)
 have hgl := h.head.lt
 obtain ⟨r, hr⟩ : ∃ r, mkR H s = r := ⟨_, rfl⟩
 unfold MadeE at HM ⊢
 rw [hr] at HM ⊢
 obtain ⟨rv, rw', rH⟩ := r
 simp only at HM ⊢
 clear h hr
 go_enter Tryz.func113, Tryz.ntmps113
 go_wp2_with fail
 refine HM.out.mono ?_
 rintro e w2 ⟨rfl, ho⟩
 have HO := Lib.hid (ROnly.pre HW.out ho)
 have HB2 := Lib.hid (HB.out.only ho.only (by omega))
 clear ho HM
 obtain ⟨z0, z1, z2, y0, y1, y2⟩ := three HB2.out
 have hlt2 := HB2.out.lt
 unfold Vl.v
 go_wp2_with fail
 exact bodyPost_ret (v := .tuple #[rv.v, .string rw']) (by simp [results, Tryz.results113, go_sem, Vl.v, *]) rfl ⟨rfl, HO.out.set3 hgl (Nat.le_refl _) _ _ _⟩
theorem RdE.no {w w' : World} {g : Nat} {tv : Value} {H : Hp} {why : ByteArray} (h : RHeapIn w g tv H) (hn : ¬ why = sNone) (he : Ext w w') : RdE w g tv (Rs.no H why) (.returned (.tuple #[Vl.zero.v, .string why])) w' :=
 ⟨by show _ = Ending.returned (.tuple #[(if why = sNone then _ else _ : Vl).v, .string why]); rw [if_neg hn], (RS.of_ext h he).step⟩
set_option maxRecDepth 100000 in
set_option maxHeartbeats 2000000 in
theorem rchar_any (g : Nat) (tv : Value) (H : Hp) (w : World) (h : RHeapIn w g tv H) (q : Option Addr) (cap : Nat) (l : List Vl) (ha : ArgsAt w q l) (hn : ∀ x ∈ l, in64 x.n) :
  Calls Tryz.prog 121 #[.pointer (some ⟨g, 0, none⟩), .slice q l.length cap] w (RdE w g tv (charR H l)) := by
 have HA := Lib.hid ha
 have HNN := Lib.hid hn
 have hlen := ha.len
 have HH := Lib.hid h
 have hgl := h.head.lt
 have HB := Lib.hid (Blk.new w 26 #[.int .i64 0, .int .i64 0, .string ⟨#[]⟩])
 have HW := Lib.hid ((Ext.refl w).alloc (.cells #[.int .i64 0, .int .i64 0, .string ⟨#[]⟩] 26))
 have hz1 : (w.alloc (.cells #[.int .i64 0, .int .i64 0, .string ⟨#[]⟩] 26)).heap.size = w.heap.size + 1 := size_alloc _ _
 obtain ⟨r, hr⟩ : ∃ r, charR H l = r := ⟨_, rfl⟩
 rw [hr]
 have HRR := Lib.hid hr
 clear ha hn h hr
 go_enter Tryz.func121, Tryz.ntmps121
 go_wp2_with fail
 generalize w.alloc (.cells #[.int .i64 0, .int .i64 0, .string ⟨#[]⟩] 26) = w1 at HB HW hz1 ⊢
 go_loopw [6, 7] (fun v6 v7 wr => ∃ (i : Nat) (acc : List UInt8), v7 = .int .i64 (i : Int) ∧ i ≤ l.length ∧ acc.length = i ∧ Hid (charL ((l.take i).map (·.n)) = some acc) ∧ Hid (OwnB wr (w.heap.size + 1) v6 acc) ∧ Hid (Ext w1 wr)) (fun _ v7 _ => l.length - (intOf v7).toNat)
 case atStart => exact ⟨0, [], rfl, Nat.zero_le _, rfl, Lib.hid rfl, Lib.hid (OwnB.nil _ _), Lib.hid (Ext.refl _)⟩
 case round =>
  obtain ⟨i, acc, rfl, hi, hal, HC, HO, HE⟩ := hrel
  obtain ⟨q0, k0, rfl⟩ := HO.out.slice
  by_cases hlt : i < l.length
  ·obtain ⟨x, hx⟩ : ∃ x, l[i]? = some x := ⟨_, List.getElem?_eq_getElem hlt⟩
   obtain ⟨b, o, rfl, ax⟩ := HA.out.at_ i x hx
   have hbb := ax.lt
   have ax2 := (ax.ext HW.out).ext HE.out
   have c1 := ax2.n
   have hbr := ax2.lt
   have hd : decide ((i : Int) < (l.length : Int)) = true := decide_eq_true (by omega)
   have hd' : decide (i < l.length) = true := decide_eq_true hlt
   have hxn := HNN.out x (List.mem_of_getElem? hx)
   have HX := Lib.hid hx
   obtain ⟨xk, xn, xs⟩ := x
   simp only at c1 hxn
   clear ax ax2 hx
   have hbad : xn < 0 ∨ 255 < xn → charR H l = Rs.no H sRange := fun hb => by
    unfold charR
    have e1 : l.map (·.n) = ((l.take i).map (·.n) ++ [xn]) ++ (l.drop (i + 1)).map (·.n) := by
     rw [← List.map_singleton (f := fun x : Vl => x.n) (a := ⟨xk, xn, xs⟩), ← List.map_append, ← List.map_append]
     congr 1
     obtain ⟨hl, he⟩ := List.getElem?_eq_some_iff.1 HX.out
     rw [List.append_assoc]
     conv => lhs; rw [← List.take_append_drop i l, List.drop_eq_getElem_cons hl, he]
     rfl
    have e2 : charL ((l.take i).map (·.n) ++ [xn]) = none := by rw [charL_snoc, HC.out]; simp; omega
    rw [e1, charL_none _ _ e2]
   have HBAD := Lib.hid hbad
   clear hbad
   by_cases h0 : xn < 0
   ·have t1 : decide (xn < 0) = true := decide_eq_true h0
    have HV : Hid (Rs.no H sRange = r) := Lib.hid ((HBAD.out (.inl h0)).symm.trans HRR.out)
    obtain ⟨z0, z1, z2, y0, y1, y2⟩ := three (HB.out.ext HE.out)
    have hlt0 := (HB.out.ext HE.out).lt
    go_wp2_with fail
    exact bodyPost_ret (v := .tuple #[Vl.zero.v, .string sRange]) (by simp [results, Tryz.results121, go_sem, Vl.zero, sRange, *]) rfl (by rw [← HV.out]; exact RdE.no HH.out (by decide) (by repeat (first | exact HW.out.trans HE.out | refine Ext.alloc ?_ _ | refine Ext.setCell ?_ (by simp <;> omega) _)))
   have t1 : decide (xn < 0) = false := decide_eq_false h0
   by_cases h2 : 255 < xn
   ·have t2 : decide (255 < xn) = true := decide_eq_true h2
    have HV : Hid (Rs.no H sRange = r) := Lib.hid ((HBAD.out (.inr h2)).symm.trans HRR.out)
    obtain ⟨z0, z1, z2, y0, y1, y2⟩ := three (HB.out.ext HE.out)
    have hlt0 := (HB.out.ext HE.out).lt
    go_wp2_with fail
    exact bodyPost_ret (v := .tuple #[Vl.zero.v, .string sRange]) (by simp [results, Tryz.results121, go_sem, Vl.zero, sRange, *]) rfl (by rw [← HV.out]; exact RdE.no HH.out (by decide) (by repeat (first | exact HW.out.trans HE.out | refine Ext.alloc ?_ _ | refine Ext.setCell ?_ (by simp <;> omega) _)))
   obtain ⟨c, rfl⟩ : ∃ c : UInt8, xn = (c.toNat : Int) := ⟨UInt8.ofNat xn.toNat, by
    have h1 : xn.toNat < 256 := by omega
    have h2 : (UInt8.ofNat xn.toNat).toNat = xn.toNat := by rw [UInt8.toNat_ofNat']; exact Nat.mod_eq_of_lt h1
    rw [h2]; omega⟩
   have hcc : (c.toNat : Int) ≤ 255 := by omega
   have t2 : decide (255 < (c.toNat : Int)) = false := decide_eq_false (by omega)
   obtain ⟨v', w2, hrun, happ⟩ := app_lit wr 135 (w.heap.size + 1) _ acc [c] HO.out (by have h1 := HE.out.le; omega) (by simp; omega)
   have E2 := Lib.hid (happ.ext (HE.out.alloc _) (by omega))
   have HA2 := Lib.hid happ.own
   have HRUN := Lib.hid hrun
   clear happ hrun h0 h2
   go_wp2_with (at_builtin; refine wpList_append_run rfl _ _ 135 rfl _ _ _ _ rfl rfl HRUN.out ?_)
   go_roundw
   case rel => exact ⟨i + 1, acc ++ [c], by go_num, by omega, by simp; omega, Lib.hid (by rw [List.take_add_one, HX.out]; simp only [Option.toList_some, List.map_append, List.map_cons, List.map_nil]; rw [charL_snoc, HC.out]; simp; omega), HA2, E2⟩
   case measure => simp [intOf]; omega
  ·obtain rfl : i = l.length := by omega
   have hcv := HO.out.conv
   have HV : Hid (mkR H ⟨acc.toArray⟩ = r) := Lib.hid (by
    rw [← HRR.out]
    unfold charR
    have h1 := HC.out
    rw [List.take_length] at h1
    rw [h1]
    rfl)
   have HWR := Lib.hid (HW.out.trans HE.out)
   have HM := Lib.hid (rmade_any g tv H ⟨acc.toArray⟩ wr (HH.out.ext HWR.out) (by show acc.toArray.size ≤ _; simp; omega))
   have HBR := Lib.hid (HB.out.ext HE.out)
   unfold MadeE at HM
   rw [HV.out] at HM
   obtain ⟨rv, rw', rH⟩ := r
   simp only at HM
   clear hal
   go_wp2_with fail
   refine HM.out.mono ?_
   rintro e w2 ⟨rfl, ho⟩
   have HO2 := Lib.hid (ROnly.pre HWR.out ho)
   have HB2 := Lib.hid (HBR.out.only ho.only (by omega))
   clear ho HM
   obtain ⟨z0, z1, z2, y0, y1, y2⟩ := three HB2.out
   have hlt2 := HB2.out.lt
   unfold Vl.v
   go_wp2_with fail
   exact bodyPost_ret (v := .tuple #[rv.v, .string rw']) (by simp [results, Tryz.results121, go_sem, Vl.v, *]) rfl (by rw [← HV.out]; exact MadeE.rd HH.out ⟨by rw [HV.out], HO2.out.set3 hgl (Nat.le_refl _) _ _ _⟩)
end Go.Proofs.YtfagldjhibdfhaaGreatDoor
namespace Go.Proofs.YtfagldjhibdfhaaGreatDoor
open Go.RowKit
set_option linter.unusedVariables false
set_option linter.unusedSimpArgs false

theorem bytes_ext (w : World) (s : ByteArray) : Ext w (Lib.bytesWorld w 5 s) :=
 ⟨rfl, rfl, rfl, by rw [Lib.bytesWorld_size]; omega, fun k hk => Lib.bytesWorld_at_old w _ s k hk⟩
theorem app_str (w : World) (ty : TypeId) (B : Nat) (v : Value) (l : List UInt8) (s : ByteArray) (h : OwnB w B v l) (hB : B ≤ w.heap.size) (hlen : l.length + s.size ≤ 140737488355328) :
  ∃ c, (convert 9 135 (.string s)).run Tryz.prog w = .ok (.slice (some ⟨w.heap.size, 0, none⟩) s.size c) (Lib.bytesWorld w 5 s) ∧
  ∃ v' w', (Builtin.append_ #[135, 135] ty #[v, .slice (some ⟨w.heap.size, 0, none⟩) s.size c]).run Tryz.prog (Lib.bytesWorld w 5 s) = .ok v' w' ∧ AppB (Lib.bytesWorld w 5 s) B v (l ++ s.data.toList) w' v' := by
 refine ⟨_, Lib.run_convert_string_bytes w 9 135 5 s Tryz.underlying9 Tryz.underlying135 Tryz.underlying5, ?_⟩
 obtain ⟨i0, hi, hz0, hz1, hz2⟩ := info_parts infoU8
 have h' : OwnB (Lib.bytesWorld w 5 s) B v l := h.ext (bytes_ext w s)
 have hsl : s.data.toList.length = s.size := rfl
 obtain ⟨v', w', h1, h2, h3, _⟩ := run_append_own (P := Tryz.prog) _ B 135 ty 5 i0 (.int .u8 0) 1 1 Tryz.underlying135 hi hz0 hz1 hz2 rfl (by omega) v l.length (Lib.byteCells l) h' ⟨w.heap.size, 0, none⟩ s.size (grownCap w s.size 0 5) (Lib.byteCells s.data.toList) (by rw [Lib.byteCells_length]; omega)
  (fun j u hu => by
   have hadd : (⟨w.heap.size, 0, none⟩ : Addr).add j = ⟨w.heap.size, 0 + j, none⟩ := by unfold Addr.add; split <;> simp_all
   have hj : j < s.size := by
    rcases Nat.lt_or_ge j s.size with h1 | h1
    ·exact h1
    ·rw [List.getElem?_eq_none (by rw [Lib.byteCells_length]; omega)] at hu; cases hu
   rw [hadd, Nat.zero_add, Lib.bytesWorld_cell w _ s j hj, ← hu]
   simp [Lib.byteCells, hj, List.getD_eq_getElem?_getD]) (byte_one s.data.toList) (by unfold maxLen; omega) (by omega) (by rw [Lib.bytesWorld_size]; omega)
 exact ⟨v', w', h1, by unfold OwnB; rw [Lib.byteCells_append, List.length_append]; exact h2, h3, own_block h'⟩
theorem repeat_snoc (l : List UInt8) : ∀ j : Nat, Lib.repeatL l (j + 1) = Lib.repeatL l j ++ l
 | 0 => by show l ++ [] = [] ++ l; simp
 | j + 1 => by
  have ih := repeat_snoc l j
  show l ++ Lib.repeatL l (j + 1) = (l ++ Lib.repeatL l j) ++ l
  rw [ih, List.append_assoc]
set_option maxRecDepth 100000 in
set_option maxHeartbeats 2000000 in
theorem rrep_any (g : Nat) (tv : Value) (H : Hp) (w : World) (h : RHeapIn w g tv H) (s : ByteArray) (n : Int) (hn : in64 n) (hs : s.size ≤ 1048576) :
  Calls Tryz.prog 118 #[.pointer (some ⟨g, 0, none⟩), .string s, .int .i64 n] w (RdE w g tv (repR H s n)) := by
 have HH := Lib.hid h
 have hgl := h.head.lt
 have HB := Lib.hid (Blk.new w 26 #[.int .i64 0, .int .i64 0, .string ⟨#[]⟩])
 have HW := Lib.hid ((Ext.refl w).alloc (.cells #[.int .i64 0, .int .i64 0, .string ⟨#[]⟩] 26))
 have hz1 : (w.alloc (.cells #[.int .i64 0, .int .i64 0, .string ⟨#[]⟩] 26)).heap.size = w.heap.size + 1 := size_alloc _ _
 obtain ⟨m, hm⟩ : ∃ m, s.size = m := ⟨_, rfl⟩
 have hl : s.data.toList.length = m := hm
 have hn1 := hn.1
 have hn2 := hn.2
 have hrp : repR H s n = match (if 0 < n ∧ s.data.toList ≠ [] then (if ((1048576 / m : Nat) : Int) < n then none else some (Lib.repeatL s.data.toList n.toNat)) else some []) with | none => Rs.no H sLong | some x => mkR H (ba x) := by
  unfold repR repL; rw [hl]; rfl
 obtain ⟨r, hr⟩ : ∃ r, repR H s n = r := ⟨_, rfl⟩
 rw [hr] at hrp ⊢
 have hcv0 := (OwnB.nil (w.alloc (.cells #[.int .i64 0, .int .i64 0, .string ⟨#[]⟩] 26)) 0).conv
 rw [hm] at hs
 clear h hr hn
 by_cases h0 : ¬ 0 < n
 ·have t1 : decide (0 < n) = false := decide_eq_false h0
  have HV : Hid (mkR H ⟨#[]⟩ = r) := Lib.hid (by rw [hrp, if_neg (fun hc => h0 hc.1)]; rfl)
  have HWR := Lib.hid HW.out
  clear hrp h0
  go_enter Tryz.func118, Tryz.ntmps118
  generalize hw1 : w.alloc (.cells #[.int .i64 0, .int .i64 0, .string ⟨#[]⟩] 26) = w1 at HB HW hz1 hcv0 HWR
  have HM := Lib.hid (rmade_any g tv H ⟨#[]⟩ w1 (HH.out.ext HWR.out) (by decide))
  have HBR := Lib.hid HB.out
  unfold MadeE at HM
  rw [HV.out] at HM
  obtain ⟨rv, rw', rH⟩ := r
  simp only at HM
  subst hw1
  go_wp2_with fail
  refine HM.out.mono ?_
  rintro e w2 ⟨rfl, ho⟩
  have HO2 := Lib.hid (ROnly.pre HWR.out ho)
  have HB2 := Lib.hid (HBR.out.only ho.only (by omega))
  clear ho HM
  obtain ⟨z0, z1, z2, y0, y1, y2⟩ := three HB2.out
  have hlt2 := HB2.out.lt
  unfold Vl.v
  go_wp2_with fail
  exact bodyPost_ret (v := .tuple #[rv.v, .string rw']) (by simp [results, Tryz.results118, go_sem, Vl.v, *]) rfl (by rw [← HV.out]; exact MadeE.rd HH.out ⟨by rw [HV.out], HO2.out.set3 hgl (Nat.le_refl _) _ _ _⟩)
 replace h0 := Classical.not_not.1 h0
 have t1 : decide (0 < n) = true := decide_eq_true h0
 by_cases hm0 : m = 0
 ·have t2 : decide ((0 : Int) < (m : Int)) = false := decide_eq_false (by omega)
  have t2' : decide (0 < m) = false := decide_eq_false (by omega)
  have HV : Hid (mkR H ⟨#[]⟩ = r) := Lib.hid (by rw [hrp, if_neg (fun hc => hc.2 (List.eq_nil_of_length_eq_zero (by omega)))]; rfl)
  have HWR := Lib.hid HW.out
  clear hrp h0 hm0
  go_enter Tryz.func118, Tryz.ntmps118
  generalize hw1 : w.alloc (.cells #[.int .i64 0, .int .i64 0, .string ⟨#[]⟩] 26) = w1 at HB HW hz1 hcv0 HWR
  have HM := Lib.hid (rmade_any g tv H ⟨#[]⟩ w1 (HH.out.ext HWR.out) (by decide))
  have HBR := Lib.hid HB.out
  unfold MadeE at HM
  rw [HV.out] at HM
  obtain ⟨rv, rw', rH⟩ := r
  simp only at HM
  subst hw1
  go_wp2_with fail
  refine HM.out.mono ?_
  rintro e w2 ⟨rfl, ho⟩
  have HO2 := Lib.hid (ROnly.pre HWR.out ho)
  have HB2 := Lib.hid (HBR.out.only ho.only (by omega))
  clear ho HM
  obtain ⟨z0, z1, z2, y0, y1, y2⟩ := three HB2.out
  have hlt2 := HB2.out.lt
  unfold Vl.v
  go_wp2_with fail
  exact bodyPost_ret (v := .tuple #[rv.v, .string rw']) (by simp [results, Tryz.results118, go_sem, Vl.v, *]) rfl (by rw [← HV.out]; exact MadeE.rd HH.out ⟨by rw [HV.out], HO2.out.set3 hgl (Nat.le_refl _) _ _ _⟩)
 have t2 : decide ((0 : Int) < (m : Int)) = true := decide_eq_true (by omega)
 have t2' : decide (0 < m) = true := decide_eq_true (by omega)
 have hmz : ¬ (m : Int) = 0 := by omega
 have hne : s.data.toList ≠ [] := fun e => by rw [e] at hl; exact hm0 hl.symm
 rw [if_pos ⟨h0, hne⟩] at hrp
 by_cases hbig : ((1048576 / m : Nat) : Int) < n
 ·have t3 : decide ((1048576 : Int) / (m : Int) < n) = true := decide_eq_true (by simpa using hbig)
  have HV : Hid (Rs.no H sLong = r) := Lib.hid (by rw [hrp, if_pos hbig])
  clear hrp hbig hne hcv0
  go_enter Tryz.func118, Tryz.ntmps118
  obtain ⟨z0, z1, z2, y0, y1, y2⟩ := three HB.out
  go_wp2_with fail
  exact bodyPost_ret (v := .tuple #[Vl.zero.v, .string sLong]) (by simp [results, Tryz.results118, go_sem, Vl.zero, sLong, *]) rfl (by rw [← HV.out]; exact RdE.no HH.out (by decide) (by repeat (first | exact HW.out | refine Ext.alloc ?_ _ | refine Ext.setCell ?_ (by simp <;> omega) _)))
 have t3 : decide ((1048576 : Int) / (m : Int) < n) = false := decide_eq_false (by simpa using hbig)
 rw [if_neg hbig] at hrp
 have hdm : m * (1048576 / m) ≤ 1048576 := Nat.mul_div_le _ _
 obtain ⟨c, rfl⟩ : ∃ c : Nat, n = (c : Int) := ⟨n.toNat, by omega⟩
 have hc : c ≤ 1048576 / m := by omega
 have hcm : m * c ≤ 1048576 := Nat.le_trans (Nat.mul_le_mul_left m hc) hdm
 rw [Int.toNat_natCast] at hrp
 have HV : Hid (mkR H (ba (Lib.repeatL s.data.toList c)) = r) := Lib.hid hrp.symm
 have HCM := Lib.hid hcm
 have HHM := Lib.hid hl
 have hcI : (c : Int) ≤ 1048576 := by
  have : 1048576 / m ≤ 1048576 := Nat.div_le_self _ _
  omega
 clear hrp hbig hne hdm hc hcm hl hcv0
 go_enter Tryz.func118, Tryz.ntmps118
 go_wp2_with fail
 generalize w.alloc (.cells #[.int .i64 0, .int .i64 0, .string ⟨#[]⟩] 26) = w1 at HB HW hz1 ⊢
 clear t1 t2 t2' t3
 go_loopw [8, 9] (fun v8 v9 wr => ∃ (i : Nat) (acc : List UInt8), v9 = .int .i64 (i : Int) ∧ i ≤ c ∧ Hid (acc = Lib.repeatL s.data.toList i) ∧ Hid (OwnB wr (w.heap.size + 1) v8 acc) ∧ Hid (Ext w1 wr)) (fun _ v9 _ => c - (intOf v9).toNat)
 case atStart => exact ⟨0, [], rfl, Nat.zero_le _, Lib.hid rfl, Lib.hid (OwnB.nil _ _), Lib.hid (Ext.refl _)⟩
 case round =>
  obtain ⟨i, acc, rfl, hi, HA, HO, HE⟩ := hrel
  obtain ⟨q0, k0, rfl⟩ := HO.out.slice
  have hal : acc.length ≤ 1048576 := by
   rw [HA.out, Lib.repeatL_length, HHM.out, Nat.mul_comm]
   exact Nat.le_trans (Nat.mul_le_mul_left m hi) HCM.out
  by_cases hlt : i < c
  ·have hd : decide ((i : Int) < (c : Int)) = true := decide_eq_true (by omega)
   have hd' : decide (i < c) = true := decide_eq_true hlt
   obtain ⟨cp, hconv, v', w2, hrun, happ⟩ := app_str wr 135 (w.heap.size + 1) _ acc s HO.out (by have h1 := HE.out.le; omega) (by omega)
   have E2 := Lib.hid (happ.ext (HE.out.trans (bytes_ext wr s)) (by omega))
   have HA2 := Lib.hid happ.own
   have HRUN := Lib.hid hrun
   clear happ hrun
   rw [hm] at hconv HRUN
   go_wp2_with (at_builtin; refine wpList_append_run rfl _ _ 135 rfl _ _ _ _ rfl rfl HRUN.out ?_)
   go_roundw
   case rel => exact ⟨i + 1, acc ++ s.data.toList, by go_num, by omega, Lib.hid (by rw [repeat_snoc, ← HA.out]), HA2, E2⟩
   case measure => simp [intOf]; omega
  ·obtain rfl : i = c := by omega
   have hd : decide ((i : Int) < (i : Int)) = false := decide_eq_false (by omega)
   have hcv := HO.out.conv
   have HWR := Lib.hid (HW.out.trans HE.out)
   have HM := Lib.hid (rmade_any g tv H ⟨acc.toArray⟩ wr (HH.out.ext HWR.out) (by show acc.toArray.size ≤ _; simp; omega))
   have HBR := Lib.hid (HB.out.ext HE.out)
   unfold MadeE at HM
   have HV2 : Hid (mkR H ⟨acc.toArray⟩ = r) := Lib.hid (by rw [← HV.out, HA.out]; rfl)
   rw [HV2.out] at HM
   obtain ⟨rv, rw', rH⟩ := r
   simp only at HM
   go_wp2_with fail
   refine HM.out.mono ?_
   rintro e w2 ⟨rfl, ho⟩
   have HO2 := Lib.hid (ROnly.pre HWR.out ho)
   have HB2 := Lib.hid (HBR.out.only ho.only (by omega))
   clear ho HM
   obtain ⟨z0, z1, z2, y0, y1, y2⟩ := three HB2.out
   have hlt2 := HB2.out.lt
   unfold Vl.v
   go_wp2_with fail
   exact bodyPost_ret (v := .tuple #[rv.v, .string rw']) (by simp [results, Tryz.results118, go_sem, Vl.v, *]) rfl (by rw [← HV2.out]; exact MadeE.rd HH.out ⟨by rw [HV2.out], HO2.out.set3 hgl (Nat.le_refl _) _ _ _⟩)
end Go.Proofs.YtfagldjhibdfhaaGreatDoor
namespace Go.Proofs.YtfagldjhibdfhaaGreatDoor
open Go.RowKit
set_option linter.unusedVariables false
set_option linter.unusedSimpArgs false

theorem num_guard (u x : Nat) (hx : x ≤ 9) : decide (-(u : Int) < Int.tdiv (-9223372036854775808 + (x : Int)) 10) = decide (9223372036854775808 < u * 10 + x) := by
 have e : Int.tdiv (-9223372036854775808 + (x : Int)) 10 = -(((9223372036854775808 - x) / 10 : Nat) : Int) := by
  have h1 : (-9223372036854775808 + (x : Int)) = -((9223372036854775808 - x : Nat) : Int) := by omega
  rw [h1, Int.neg_tdiv]
  rfl
 rw [e, decide_eq_decide]
 omega
theorem digR_step (a : Nat) (l : List UInt8) (j : Nat) (h : j < l.length) : digR a (l.drop j) = if 48 ≤ (l[j]).toNat ∧ (l[j]).toNat ≤ 57 then (if 9223372036854775808 < a * 10 + ((l[j]).toNat - 48) then none else digR (a * 10 + ((l[j]).toNat - 48)) (l.drop (j + 1))) else none := by
 rw [List.drop_eq_getElem_cons h]
 rfl
set_option maxRecDepth 100000 in
set_option maxHeartbeats 2000000 in
theorem rnum_long (s : ByteArray) (hs : 20 < s.size) (hz : s.size ≤ 9223372036854775807) (w : World) : Calls Tryz.prog 163 #[.string s] w fun e w' => e = .returned (.tuple #[.int .i64 0, .bool false]) ∧ w = w' := by
 have hq : s.toList.isEmpty = false := by
  cases hw : s.toList with
  | nil =>
   have h1 := congrArg List.length hw
   rw [Lib.toList_data, List.length_nil] at h1
   have h2 : s.data.toList.length = s.size := rfl
   omega
  | cons _ _ => rfl
 obtain ⟨m, hm⟩ : ∃ m, s.size = m := ⟨_, rfl⟩
 rw [hm] at hs hz
 have hd : decide ((20 : Int) < (m : Int)) = true := decide_eq_true (by omega)
 have hd' : decide (20 < m) = true := decide_eq_true hs
 go_enter Tryz.func163, Tryz.ntmps163
 go_wp2_with fail
 go_ret2
 exact ⟨rfl, rfl⟩
theorem rnum_none (w : World) : Calls Tryz.prog 163 #[.string sNone] w fun e w' => e = .returned (.tuple #[.int .i64 0, .bool false]) ∧ w = w' := by
 have hq : sNone.toList = [] := sNone_list
 go_enter Tryz.func163, Tryz.ntmps163
 go_wp2_with fail
 go_ret2
 exact ⟨rfl, rfl⟩
end Go.Proofs.YtfagldjhibdfhaaGreatDoor
namespace Go.Proofs.YtfagldjhibdfhaaGreatDoor
open Go.RowKit
set_option linter.unusedVariables false
set_option linter.unusedSimpArgs false

def NumE (o : Option Int) (e : Ending) : Prop := e = .returned (.tuple #[.int .i64 (o.getD 0), .bool o.isSome])
set_option maxRecDepth 100000 in
set_option maxHeartbeats 2000000 in
theorem rnum_pos (s : ByteArray) (h0 : 0 < s.size) (hs : s.size ≤ 20) (hneg : ¬ s[0] = 45) (w : World) : Calls Tryz.prog 163 #[.string s] w fun e w' => NumE (numD false s.data.toList) e ∧ w = w' := by
 have hq : s.toList.isEmpty = false := by
  cases hw : s.toList with
  | nil =>
   have h1 := congrArg List.length hw
   rw [Lib.toList_data, List.length_nil] at h1
   have h2 : s.data.toList.length = s.size := rfl
   omega
  | cons _ _ => rfl
 obtain ⟨r, hr⟩ : ∃ r, numD false s.data.toList = r := ⟨_, rfl⟩
 rw [hr]
 have HR := Lib.hid hr
 obtain ⟨m, hm⟩ : ∃ m, s.size = m := ⟨_, rfl⟩
 have hd : decide ((20 : Int) < (m : Int)) = false := decide_eq_false (by omega)
 have hd' : decide (20 < m) = false := decide_eq_false (by omega)
 have h0' : 0 < m := by omega
 obtain ⟨c, hc⟩ : ∃ c, s[0] = c := ⟨_, rfl⟩
 rw [hc] at hneg
 have t0 : ((c.toNat : Int) == 45) = false := byte_ne hneg
 clear hr hneg
 go_enter Tryz.func163, Tryz.ntmps163
 by_cases h1 : 1 < m
 ·have t1 : decide ((1 : Int) < (m : Int)) = true := decide_eq_true (by omega)
  have t1' : decide (1 < m) = true := decide_eq_true h1
  by_cases h48 : c = 48
  ·subst h48
   have HV : Hid (r = none) := Lib.hid (by
    have hne : s.data.toList.head? = some 48 := by
     rw [List.head?_eq_getElem?, List.getElem?_eq_getElem (show 0 < s.data.toList.length from by show 0 < s.size; omega)]
     exact congrArg some hc
    rw [← HR.out]
    unfold numD
    rw [if_pos (.inr (.inl ⟨by show 1 < s.size; omega, hne⟩))])
   go_wp2_with fail
   go_ret2
   exact ⟨by rw [HV.out]; rfl, rfl⟩
  ·have t2 : ((c.toNat : Int) == 48) = false := byte_ne h48
   have HRD : Hid (r = match digR 0 s.data.toList with | none => none | some u => if u = 9223372036854775808 then none else some (u : Int)) := Lib.hid (by
    rw [← HR.out]
    unfold numD
    have e : s.data.toList = s.data.toList[0]'(by show 0 < s.size; omega) :: s.data.toList.drop 1 := by rw [← List.drop_eq_getElem_cons]; rfl
    rw [if_neg]
    ·rfl
    ·rintro (hx | ⟨_, hx⟩ | ⟨hx, _⟩)
     ·have h9 := congrArg List.length hx
      have h8 : s.data.toList.length = s.size := rfl
      rw [List.length_nil] at h9
      omega
     ·rw [e, List.head?_cons] at hx
      exact h48 (hc.symm.trans (Option.some.inj hx))
     ·cases hx)
   go_wp2_with fail
   clear t0 t1 t1' t2 hd hd'
   go_loopw [6, 7] (fun v6 v7 wr => ∃ (j u : Nat), v7 = .int .i64 (j : Int) ∧ v6 = .int .i64 (-(u : Int)) ∧ j ≤ m ∧ u ≤ 9223372036854775808 ∧ wr = w ∧ Hid (digR 0 s.data.toList = digR u (s.data.toList.drop j))) (fun _ v7 _ => m - (intOf v7).toNat)
   case atStart => exact ⟨0, 0, rfl, rfl, Nat.zero_le _, by omega, rfl, Lib.hid rfl⟩
   case round =>
    obtain ⟨j, u, rfl, rfl, hj, hu, rfl, HD⟩ := hrel
    by_cases hlt : j < m
    ·have hd : decide ((j : Int) < (m : Int)) = true := decide_eq_true (by omega)
     have hd' : decide (j < m) = true := decide_eq_true hlt
     have hjs : j < s.size := by omega
     obtain ⟨cj, hcj⟩ : ∃ cj, s[j] = cj := ⟨_, rfl⟩
     by_cases h2 : 48 ≤ cj.toNat ∧ cj.toNat ≤ 57
     ·obtain ⟨x, hx⟩ : ∃ x : Nat, (cj.toNat : Int) = (x : Int) + 48 := ⟨cj.toNat - 48, by omega⟩
      have t3 : decide ((x : Int) + 48 < 48) = false := decide_eq_false (by omega)
      have t4 : decide (57 < (x : Int) + 48) = false := decide_eq_false (by omega)
      have hx9 : (x : Int) ≤ 9 := by omega
      have hx0 : 0 ≤ (x : Int) := by omega
      have hg := num_guard u x (by omega)
      have hst := digR_step u s.data.toList j hjs
      rw [show s.data.toList[j]'hjs = cj from hcj, if_pos h2, show cj.toNat - 48 = x by omega] at hst
      by_cases hbig : 9223372036854775808 < u * 10 + x
      ·rw [decide_eq_true hbig] at hg
       rw [if_pos hbig] at hst
       have HST := Lib.hid hst
       clear hst hbig
       have HV : Hid (r = none) := Lib.hid (by rw [HRD.out, HD.out, HST.out])
       go_wp2_with fail
       go_ret2
       exact ⟨by rw [HV.out]; rfl, rfl⟩
      ·rw [decide_eq_false hbig] at hg
       rw [if_neg hbig] at hst
       have HST := Lib.hid hst
       have hb1 : -9223372036854775808 ≤ -(u : Int) * 10 - (x : Int) := by omega
       have hb2 : -9223372036854775808 ≤ -(u : Int) * 10 := by omega
       have hb3 : -(u : Int) * 10 ≤ 0 := by omega
       clear hst
       go_wp2_with fail
       go_roundw
       case rel => exact ⟨j + 1, u * 10 + x, by go_num, by congr 1; omega, by omega, by omega, trivial, Lib.hid (by rw [HD.out, HST.out])⟩
       case measure => simp [intOf]; omega
     ·have hst := digR_step u s.data.toList j hjs
      rw [show s.data.toList[j]'hjs = cj from hcj, if_neg h2] at hst
      have HV : Hid (r = none) := Lib.hid (by rw [HRD.out, HD.out, hst])
      clear hst
      by_cases h3 : cj.toNat < 48
      ·have t3 : decide ((cj.toNat : Int) < 48) = true := decide_eq_true (by omega)
       clear h2
       go_wp2_with fail
       go_ret2
       exact ⟨by rw [HV.out]; rfl, rfl⟩
      ·have t3 : decide ((cj.toNat : Int) < 48) = false := decide_eq_false (by omega)
       have t4 : decide (57 < (cj.toNat : Int)) = true := decide_eq_true (by omega)
       clear h2 h3
       go_wp2_with fail
       go_ret2
       exact ⟨by rw [HV.out]; rfl, rfl⟩
    ·obtain rfl : j = m := by omega
     have hd : decide ((j : Int) < (j : Int)) = false := decide_eq_false (by omega)
     have hD2 := HD.out
     rw [show s.data.toList.drop j = [] from List.drop_eq_nil_of_le (by show s.size ≤ j; omega)] at hD2
     have HRF : Hid (r = if u = 9223372036854775808 then none else some (u : Int)) := Lib.hid (by rw [HRD.out, hD2]; rfl)
     clear hD2
     by_cases hu2 : u = 9223372036854775808
     ·have HV : Hid (r = none) := Lib.hid (by rw [HRF.out, if_pos hu2])
      have t3 : (-(u : Int) == -9223372036854775808) = true := by rw [beq_iff_eq]; omega
      clear hu2
      go_wp2_with fail
      go_ret2
      exact ⟨by rw [HV.out]; rfl, rfl⟩
     ·have HV : Hid (r = some (u : Int)) := Lib.hid (by rw [HRF.out, if_neg hu2])
      have t3 : (-(u : Int) == -9223372036854775808) = false := by rw [beq_eq_false_iff_ne]; omega
      have hb1 : (u : Int) ≤ 9223372036854775807 := by omega
      clear hu2
      go_wp2_with fail
      go_ret2
      exact ⟨by rw [HV.out]; rfl, rfl⟩
 ·have t1 : decide ((1 : Int) < (m : Int)) = false := decide_eq_false (by omega)
  have t1' : decide (1 < m) = false := decide_eq_false h1
  have HRD : Hid (r = match digR 0 s.data.toList with | none => none | some u => if u = 9223372036854775808 then none else some (u : Int)) := Lib.hid (by
   rw [← HR.out]
   unfold numD
   have e : s.data.toList = s.data.toList[0]'(by show 0 < s.size; omega) :: s.data.toList.drop 1 := by rw [← List.drop_eq_getElem_cons]; rfl
   rw [if_neg]
   ·rfl
   ·rintro (hx | ⟨hx, _⟩ | ⟨hx, _⟩)
    ·have h9 := congrArg List.length hx
     have h8 : s.data.toList.length = s.size := rfl
     rw [List.length_nil] at h9
     omega
    ·have h8 : s.data.toList.length = s.size := rfl
     omega
    ·cases hx)
  go_wp2_with fail
  clear t0 t1 t1' hd hd'
  go_loopw [6, 7] (fun v6 v7 wr => ∃ (j u : Nat), v7 = .int .i64 (j : Int) ∧ v6 = .int .i64 (-(u : Int)) ∧ j ≤ m ∧ u ≤ 9223372036854775808 ∧ wr = w ∧ Hid (digR 0 s.data.toList = digR u (s.data.toList.drop j))) (fun _ v7 _ => m - (intOf v7).toNat)
  case atStart => exact ⟨0, 0, rfl, rfl, Nat.zero_le _, by omega, rfl, Lib.hid rfl⟩
  case round =>
   obtain ⟨j, u, rfl, rfl, hj, hu, rfl, HD⟩ := hrel
   by_cases hlt : j < m
   ·have hd : decide ((j : Int) < (m : Int)) = true := decide_eq_true (by omega)
    have hd' : decide (j < m) = true := decide_eq_true hlt
    have hjs : j < s.size := by omega
    obtain ⟨cj, hcj⟩ : ∃ cj, s[j] = cj := ⟨_, rfl⟩
    by_cases h2 : 48 ≤ cj.toNat ∧ cj.toNat ≤ 57
    ·obtain ⟨x, hx⟩ : ∃ x : Nat, (cj.toNat : Int) = (x : Int) + 48 := ⟨cj.toNat - 48, by omega⟩
     have t3 : decide ((x : Int) + 48 < 48) = false := decide_eq_false (by omega)
     have t4 : decide (57 < (x : Int) + 48) = false := decide_eq_false (by omega)
     have hx9 : (x : Int) ≤ 9 := by omega
     have hx0 : 0 ≤ (x : Int) := by omega
     have hg := num_guard u x (by omega)
     have hst := digR_step u s.data.toList j hjs
     rw [show s.data.toList[j]'hjs = cj from hcj, if_pos h2, show cj.toNat - 48 = x by omega] at hst
     by_cases hbig : 9223372036854775808 < u * 10 + x
     ·rw [decide_eq_true hbig] at hg
      rw [if_pos hbig] at hst
      have HST := Lib.hid hst
      clear hst hbig
      have HV : Hid (r = none) := Lib.hid (by rw [HRD.out, HD.out, HST.out])
      go_wp2_with fail
      go_ret2
      exact ⟨by rw [HV.out]; rfl, rfl⟩
     ·rw [decide_eq_false hbig] at hg
      rw [if_neg hbig] at hst
      have HST := Lib.hid hst
      have hb1 : -9223372036854775808 ≤ -(u : Int) * 10 - (x : Int) := by omega
      have hb2 : -9223372036854775808 ≤ -(u : Int) * 10 := by omega
      have hb3 : -(u : Int) * 10 ≤ 0 := by omega
      clear hst
      go_wp2_with fail
      go_roundw
      case rel => exact ⟨j + 1, u * 10 + x, by go_num, by congr 1; omega, by omega, by omega, trivial, Lib.hid (by rw [HD.out, HST.out])⟩
      case measure => simp [intOf]; omega
    ·have hst := digR_step u s.data.toList j hjs
     rw [show s.data.toList[j]'hjs = cj from hcj, if_neg h2] at hst
     have HV : Hid (r = none) := Lib.hid (by rw [HRD.out, HD.out, hst])
     clear hst
     by_cases h3 : cj.toNat < 48
     ·have t3 : decide ((cj.toNat : Int) < 48) = true := decide_eq_true (by omega)
      clear h2
      go_wp2_with fail
      go_ret2
      exact ⟨by rw [HV.out]; rfl, rfl⟩
     ·have t3 : decide ((cj.toNat : Int) < 48) = false := decide_eq_false (by omega)
      have t4 : decide (57 < (cj.toNat : Int)) = true := decide_eq_true (by omega)
      clear h2 h3
      go_wp2_with fail
      go_ret2
      exact ⟨by rw [HV.out]; rfl, rfl⟩
   ·obtain rfl : j = m := by omega
    have hd : decide ((j : Int) < (j : Int)) = false := decide_eq_false (by omega)
    have hD2 := HD.out
    rw [show s.data.toList.drop j = [] from List.drop_eq_nil_of_le (by show s.size ≤ j; omega)] at hD2
    have HRF : Hid (r = if u = 9223372036854775808 then none else some (u : Int)) := Lib.hid (by rw [HRD.out, hD2]; rfl)
    clear hD2
    by_cases hu2 : u = 9223372036854775808
    ·have HV : Hid (r = none) := Lib.hid (by rw [HRF.out, if_pos hu2])
     have t3 : (-(u : Int) == -9223372036854775808) = true := by rw [beq_iff_eq]; omega
     clear hu2
     go_wp2_with fail
     go_ret2
     exact ⟨by rw [HV.out]; rfl, rfl⟩
    ·have HV : Hid (r = some (u : Int)) := Lib.hid (by rw [HRF.out, if_neg hu2])
     have t3 : (-(u : Int) == -9223372036854775808) = false := by rw [beq_eq_false_iff_ne]; omega
     have hb1 : (u : Int) ≤ 9223372036854775807 := by omega
     clear hu2
     go_wp2_with fail
     go_ret2
     exact ⟨by rw [HV.out]; rfl, rfl⟩
end Go.Proofs.YtfagldjhibdfhaaGreatDoor
namespace Go.Proofs.YtfagldjhibdfhaaGreatDoor
open Go.RowKit
set_option linter.unusedVariables false
set_option linter.unusedSimpArgs false

abbrev zcells : Array Value := #[.int .i64 0, .int .i64 0, .string ⟨#[]⟩]
theorem RowAt.zeroed {w w' : World} {v : Value} {l : List Vl} {B : Nat} {u0 u1 u2 : Value} (h : RowAt w v l) (hl : ∀ x ∈ l, ¬ x.k = 0) (hz : Blk w B 26 zcells) (hB : Blk w' B 26 #[u0, u1, u2])
  (he : ∀ k, k ≠ B → k < w.heap.size → w'.heap[k]? = w.heap[k]?) : RowAt w' v l := by
 obtain ⟨hn, hrow⟩ := h
 refine ⟨hn, ?_⟩
 rcases hrow with h1 | ⟨gb, cap, cur, e1, hb, hc, h2, h3, h4, h5⟩
 ·exact .inl h1
 ·by_cases hg : gb = B
  ·subst hg
   unfold Blk at hz
   rw [hz] at hc
   have hcur : zcells = cur := by injection Option.some.inj hc
   subst hcur
   have h4' : 3 = cap * 3 := h4
   have hcap : cap = 1 := by omega
   subst hcap
   cases l with
   | nil => exact .inr ⟨gb, 1, _, e1, hb, hB, h2, h3, rfl, by simp [flat]⟩
   | cons x r =>
    exfalso
    have hr : r = [] := by
     cases r with
     | nil => rfl
     | cons y s => simp at h2
    subst hr
    have h6 := congrArg (fun z : List Value => z[0]?) h5
    simp [flat, vcells] at h6
    exact hl x (by simp) h6.symm
  ·exact .inr ⟨gb, cap, cur, e1, hb, (he gb hg (lt_of_block hc)).trans hc, h2, h3, h4, h5⟩
theorem TRow.some {L T : Tb} (h : TRow L T) (hT : TbOk T) : ∀ x ∈ L, ¬ x.1.k = 0 ∧ ¬ x.2.k = 0 := by
 rintro ⟨k, v⟩ hx
 have h1 := mget_of_mem h.once hx
 rw [← h.get] at h1
 have h2 : (k, v) ∈ T := by
  have : ∀ (m : Tb), mget m k = Option.some v → (k, v) ∈ m := by
   intro m
   induction m with
   | nil => intro e; simp [mget] at e
   | cons y m ih =>
    intro e
    obtain ⟨a, b⟩ := y
    unfold mget at e
    split at e
    ·rename_i hk
     first
      | (obtain rfl := Option.some.inj e; subst hk; simp)
      | (obtain rfl := Option.some.inj e; simp [hk])
    ·exact List.mem_cons_of_mem _ (ih e)
  exact this T h1
 refine ⟨?_, (hT.val _ h2).some⟩
 have := (hT.key _ h2).kind
 simp only at this ⊢
 omega
theorem RHeapIn.zeroed {w w' : World} {g B : Nat} {tv : Value} {R : Hp} {u0 u1 u2 : Value} (h : RHeapIn w g tv R) (hz : Blk w B 26 zcells) (hB : Blk w' B 26 #[u0, u1, u2])
  (he : ∀ k, k ≠ B → k < w.heap.size → w'.heap[k]? = w.heap[k]?) : RHeapIn w' g tv R := by
 have hgB : g ≠ B := by
  rintro rfl
  have := h.head
  unfold RB Blk at this
  unfold Blk at hz
  rw [this] at hz
  injection Option.some.inj hz with _ e
  exact absurd e (by decide)
 obtain ⟨rows, ⟨hl, hrow⟩, h2, h3⟩ := h.rows
 refine ⟨(he g hgB (lt_of_block h.head)).trans h.head, ⟨rows, ⟨hl, ?_⟩, h2, fun i r T hr hT => ?_⟩, h.ok⟩
 ·rcases hrow with h1 | ⟨gb, cap, cur, e1, hb, hc, hq⟩
  ·exact .inl h1
  ·refine .inr ⟨gb, cap, cur, e1, hb, (he gb ?_ (lt_of_block hc)).trans hc, hq⟩
   rintro rfl
   unfold Blk at hz
   rw [hc] at hz
   injection Option.some.inj hz with _ e
   exact absurd e (by decide)
 ·obtain ⟨L, l1, l2, l3⟩ := h3 i r T hr hT
  have hs := l1.some (h.ok.tab T (List.mem_of_getElem? hT))
  refine ⟨L, l1, l2.zeroed (fun x hx => ?_) hz hB he, l3.zeroed (fun x hx => ?_) hz hB he⟩
  ·obtain ⟨y, hy, rfl⟩ := List.mem_map.1 hx
   exact (hs y hy).1
  ·obtain ⟨y, hy, rfl⟩ := List.mem_map.1 hx
   exact (hs y hy).2
theorem RS.zeroed {w w1 : World} {g B : Nat} {tv tv1 : Value} {H1 : Hp} (a : RS w g tv w1 tv1 H1) (hz : Blk w1 B 26 zcells) (hn : w.heap.size ≤ B) (u0 u1 u2 : Value) :
  RS w g tv (((w1.setCell ⟨B, 0, none⟩ u0).setCell ⟨B, 1, none⟩ u1).setCell ⟨B, 2, none⟩ u2) tv1 H1 := by
 have hB := ((hz.set_ 0 u0).set_ 1 u1).set_ 2 u2
 have he : ∀ k, k ≠ B → (((w1.setCell ⟨B, 0, none⟩ u0).setCell ⟨B, 1, none⟩ u1).setCell ⟨B, 2, none⟩ u2).heap[k]? = w1.heap[k]? := fun k hk =>
  (Below.heap_setCell _ _ _ k hk).trans ((Below.heap_setCell _ _ _ k hk).trans (Below.heap_setCell _ _ _ k hk))
 exact ⟨a.heap.zeroed hz hB fun k hk _ => he k hk, ⟨a.touch.os, a.touch.tape, a.touch.output, by simpa [World.setCell] using a.touch.size, fun k hk h => (he k (by omega)).trans (a.touch.block k hk h)⟩, a.foot⟩
end Go.Proofs.YtfagldjhibdfhaaGreatDoor
namespace Go.Proofs.YtfagldjhibdfhaaGreatDoor
open Go.RowKit
set_option linter.unusedVariables false
set_option linter.unusedSimpArgs false

theorem nonempty_of {d : ByteArray} (h : 0 < d.size) : d.toList.isEmpty = false := by
 cases hw : d.toList with
 | nil =>
  have h1 := congrArg List.length hw
  rw [Lib.toList_data, List.length_nil] at h1
  have h2 : d.data.toList.length = d.size := rfl
  omega
 | cons _ _ => rfl
theorem list_one {d : ByteArray} (h : d.size = 1) : d.data.toList = [d[0]] := by
 have e : d.data.toList = d.data.toList[0]'(by show 0 < d.size; omega) :: d.data.toList.drop 1 := by rw [← List.drop_eq_getElem_cons]; rfl
 rw [e, List.drop_eq_nil_of_le (by show d.size ≤ 1; omega)]
 rfl
theorem list_head {d : ByteArray} (h : 0 < d.size) : d.data.toList.head? = some d[0] := by
 rw [List.head?_eq_getElem?, List.getElem?_eq_getElem (show 0 < d.data.toList.length from h)]
 rfl
set_option maxRecDepth 100000 in
set_option maxHeartbeats 4000000 in
theorem rnum_neg (s d : ByteArray) (h0 : 0 < s.size) (hs : s.size ≤ 20) (hneg : s[0] = 45) (hde : s.extract 1 s.size = d) (w : World) : Calls Tryz.prog 163 #[.string s] w fun e w' => NumE (numD true d.data.toList) e ∧ w = w' := by
 have hq : s.toList.isEmpty = false := nonempty_of h0
 obtain ⟨r, hr⟩ : ∃ r, numD true d.data.toList = r := ⟨_, rfl⟩
 rw [hr]
 have HR := Lib.hid hr
 have hds : d.size = s.size - 1 := by rw [← hde]; simp
 obtain ⟨m, hm⟩ : ∃ m, s.size = m := ⟨_, rfl⟩
 obtain ⟨k, hk⟩ : ∃ k, d.size = k := ⟨_, rfl⟩
 have hkm : k + 1 = m := by omega
 have hd : decide ((20 : Int) < (m : Int)) = false := decide_eq_false (by omega)
 have hd' : decide (20 < m) = false := decide_eq_false (by omega)
 have h0' : 0 < m := by omega
 rw [hm] at hde
 have h1m : (1 : Int) ≤ (m : Int) := by omega
 have t0 : ((45 : UInt8).toNat : Int) = 45 := rfl
 clear hr hds
 go_enter Tryz.func163, Tryz.ntmps163
 rcases Nat.eq_zero_or_pos k with hz | hz
 ·have HV : Hid (r = none) := Lib.hid (by
   rw [← HR.out]
   unfold numD
   rw [if_pos (.inl (List.eq_nil_of_length_eq_zero (by show d.size = 0; omega)))])
  have hqd : d.toList.isEmpty = true := by
   rw [Lib.toList_data, List.eq_nil_of_length_eq_zero (show d.data.toList.length = 0 by show d.size = 0; omega)]
   rfl
  clear hz
  go_wp2_with fail
  go_ret2
  exact ⟨by rw [HV.out]; rfl, rfl⟩
 have hqd : d.toList.isEmpty = false := nonempty_of (by omega)
 have hdz : 0 < d.size := by omega
 obtain ⟨c, hc⟩ : ∃ c, d[0] = c := ⟨_, rfl⟩
 by_cases h48 : c = 48
 ·subst h48
  by_cases h1 : 1 < k
  ·have t1 : decide ((1 : Int) < (k : Int)) = true := decide_eq_true (by omega)
   have t1' : decide (1 < k) = true := decide_eq_true h1
   have HV : Hid (r = none) := Lib.hid (by
    rw [← HR.out]
    unfold numD
    rw [if_pos (.inr (.inl ⟨by show 1 < d.size; omega, by rw [list_head hdz, hc]⟩))])
   go_wp2_with fail
   go_ret2
   exact ⟨by rw [HV.out]; rfl, rfl⟩
  ·have t1 : decide ((1 : Int) < (k : Int)) = false := decide_eq_false (by omega)
   have t1' : decide (1 < k) = false := decide_eq_false h1
   have he : d.data.toList = [48] := by rw [list_one (by omega), hc]
   have t2 : (d.toList == [48]) = true := by rw [Lib.toList_data, he]; rfl
   have t3 : d.toList = [48] := by rw [Lib.toList_data, he]
   have HV : Hid (r = none) := Lib.hid (by
    rw [← HR.out]
    unfold numD
    rw [if_pos (.inr (.inr ⟨rfl, he⟩))])
   clear he
   go_wp2_with fail
   go_ret2
   exact ⟨by rw [HV.out]; rfl, rfl⟩
 have t2 : ((c.toNat : Int) == 48) = false := byte_ne h48
 have t3 : (d.toList == [48]) = false := by
  rw [beq_eq_false_iff_ne, Lib.toList_data]
  intro e
  have := list_head hdz
  rw [e, hc] at this
  exact h48 (Option.some.inj this).symm
 have HRD : Hid (r = match digR 0 d.data.toList with | none => none | some u => some (-(u : Int))) := Lib.hid (by
  rw [← HR.out]
  unfold numD
  rw [if_neg]
  ·rfl
  ·rintro (hx | ⟨_, hx⟩ | ⟨_, hx⟩)
   ·have h9 := congrArg List.length hx
    have h8 : d.data.toList.length = d.size := rfl
    rw [List.length_nil] at h9
    omega
   ·rw [list_head hdz, hc] at hx
    exact h48 (Option.some.inj hx)
   ·have := list_head hdz
    rw [hx, hc] at this
    exact h48 (Option.some.inj this).symm)
 have hcut : decide ((1 : Int) < (k : Int)) = true ∨ decide ((1 : Int) < (k : Int)) = false := by cases decide ((1 : Int) < (k : Int)) <;> simp
 rcases hcut with t1 | t1
 all_goals (
  go_wp2_with fail
  clear t0 t1 t2 t3 hd hd' hqd hq
  go_loopw [6, 7] (fun v6 v7 wr => ∃ (j u : Nat), v7 = .int .i64 (j : Int) ∧ v6 = .int .i64 (-(u : Int)) ∧ j ≤ k ∧ u ≤ 9223372036854775808 ∧ wr = w ∧ Hid (digR 0 d.data.toList = digR u (d.data.toList.drop j))) (fun _ v7 _ => k - (intOf v7).toNat)
  case atStart => exact ⟨0, 0, rfl, rfl, Nat.zero_le _, by omega, rfl, Lib.hid rfl⟩
  case round =>
   obtain ⟨j, u, rfl, rfl, hj, hu, rfl, HD⟩ := hrel
   by_cases hlt : j < k
   ·have hd : decide ((j : Int) < (k : Int)) = true := decide_eq_true (by omega)
    have hd' : decide (j < k) = true := decide_eq_true hlt
    have hjs : j < d.size := by omega
    obtain ⟨cj, hcj⟩ : ∃ cj, d[j] = cj := ⟨_, rfl⟩
    by_cases h2 : 48 ≤ cj.toNat ∧ cj.toNat ≤ 57
    ·obtain ⟨x, hx⟩ : ∃ x : Nat, (cj.toNat : Int) = (x : Int) + 48 := ⟨cj.toNat - 48, by omega⟩
     have t3 : decide ((x : Int) + 48 < 48) = false := decide_eq_false (by omega)
     have t4 : decide (57 < (x : Int) + 48) = false := decide_eq_false (by omega)
     have hx9 : (x : Int) ≤ 9 := by omega
     have hx0 : 0 ≤ (x : Int) := by omega
     have hg := num_guard u x (by omega)
     have hst := digR_step u d.data.toList j hjs
     rw [show d.data.toList[j]'hjs = cj from hcj, if_pos h2, show cj.toNat - 48 = x by omega] at hst
     by_cases hbig : 9223372036854775808 < u * 10 + x
     ·rw [decide_eq_true hbig] at hg
      rw [if_pos hbig] at hst
      have HST := Lib.hid hst
      clear hst hbig
      have HV : Hid (r = none) := Lib.hid (by rw [HRD.out, HD.out, HST.out])
      go_wp2_with fail
      go_ret2
      exact ⟨by rw [HV.out]; rfl, rfl⟩
     ·rw [decide_eq_false hbig] at hg
      rw [if_neg hbig] at hst
      have HST := Lib.hid hst
      have hb1 : -9223372036854775808 ≤ -(u : Int) * 10 - (x : Int) := by omega
      have hb2 : -9223372036854775808 ≤ -(u : Int) * 10 := by omega
      have hb3 : -(u : Int) * 10 ≤ 0 := by omega
      clear hst
      go_wp2_with fail
      go_roundw
      case rel => exact ⟨j + 1, u * 10 + x, by go_num, by congr 1; omega, by omega, by omega, trivial, Lib.hid (by rw [HD.out, HST.out])⟩
      case measure => simp [intOf]; omega
    ·have hst := digR_step u d.data.toList j hjs
     rw [show d.data.toList[j]'hjs = cj from hcj, if_neg h2] at hst
     have HV : Hid (r = none) := Lib.hid (by rw [HRD.out, HD.out, hst])
     clear hst
     by_cases h3 : cj.toNat < 48
     ·have t3 : decide ((cj.toNat : Int) < 48) = true := decide_eq_true (by omega)
      clear h2
      go_wp2_with fail
      go_ret2
      exact ⟨by rw [HV.out]; rfl, rfl⟩
     ·have t3 : decide ((cj.toNat : Int) < 48) = false := decide_eq_false (by omega)
      have t4 : decide (57 < (cj.toNat : Int)) = true := decide_eq_true (by omega)
      clear h2 h3
      go_wp2_with fail
      go_ret2
      exact ⟨by rw [HV.out]; rfl, rfl⟩
   ·obtain rfl : j = k := by omega
    have hd : decide ((j : Int) < (j : Int)) = false := decide_eq_false (by omega)
    have hD2 := HD.out
    rw [show d.data.toList.drop j = [] from List.drop_eq_nil_of_le (by show d.size ≤ j; omega)] at hD2
    have HV : Hid (r = some (-(u : Int))) := Lib.hid (by rw [HRD.out, hD2]; rfl)
    clear hD2
    go_wp2_with fail
    go_ret2
    exact ⟨by rw [HV.out]; rfl, rfl⟩)
theorem rnum_any (s : ByteArray) (hz : s.size ≤ 9223372036854775807) (w : World) : Calls Tryz.prog 163 #[.string s] w fun e w' => NumE (tnL s.data.toList) e ∧ w = w' := by
 rw [← num_same]
 unfold numR
 by_cases h0 : s.data.toList = []
 ·rw [if_pos (.inl h0)]
  have : s = sNone := by apply ByteArray.ext; exact Array.toList_inj.1 (h0.trans rfl)
  subst this
  exact (rnum_none w)
 ·have h0' : 0 < s.size := by
   exact List.length_pos_iff.2 h0
  by_cases h20 : 20 < s.size
  ·rw [if_pos (.inr h20)]
   exact rnum_long s h20 hz w
  ·rw [if_neg (by rintro (h | h); exact h0 h; exact h20 h), list_head h0']
   by_cases hn : s[0] = 45
   ·rw [if_pos (by rw [hn])]
    have := rnum_neg s _ h0' (by omega) hn rfl w
    have e : (s.extract 1 s.size).data.toList = s.data.toList.tail := by
     rw [ByteArray.data_extract, Array.toList_extract]
     rw [List.extract_eq_take_drop, List.take_of_length_le (by rw [List.length_drop]; exact Nat.le_refl _), List.drop_one]
    rw [e] at this
    exact this
   ·rw [if_neg (fun e => hn (Option.some.inj e))]
    exact rnum_pos s h0' (by omega) hn w
end Go.Proofs.YtfagldjhibdfhaaGreatDoor
namespace Go.Proofs.YtfagldjhibdfhaaGreatDoor
open Go.RowKit
set_option linter.unusedVariables false
set_option linter.unusedSimpArgs false

set_option maxRecDepth 100000 in
set_option maxHeartbeats 2000000 in
theorem rtonum_any (v : Vl) (hs : v.s.size ≤ 9223372036854775807) (w : World) : Calls Tryz.prog 115 #[v.v] w fun e w' => e = .returned (tonumV v).v ∧ Ext w w' := by
 obtain ⟨vk, vn, vs⟩ := v
 simp only at hs
 obtain ⟨r, hr⟩ : ∃ r, tonumV ⟨vk, vn, vs⟩ = r := ⟨_, rfl⟩
 rw [hr]
 unfold tonumV at hr
 simp only at hr
 by_cases h2 : vk = 2
 ·rw [if_pos h2] at hr
  subst h2
  have HV := Lib.hid hr
  clear hr
  go_enter Tryz.func115, Tryz.ntmps115
  go_wp2_with fail
  exact bodyPost_ret (v := (⟨2, vn, vs⟩ : Vl).v) (by simp [results, Tryz.results115, go_sem, *]) rfl ⟨by rw [HV.out], by repeat (first | exact Ext.refl _ | refine Ext.alloc ?_ _ | refine Ext.setCell ?_ (by simp <;> omega) _)⟩
 ·rw [if_neg h2] at hr
  have t2 : (vk == 2) = false := by rw [beq_eq_false_iff_ne]; exact h2
  have HB := Lib.hid (show Blk ((w.alloc (.cells #[.int .i64 vk, .int .i64 vn, .string vs] 26)).alloc (.cells #[.int .i64 0, .int .i64 0, .string ⟨#[]⟩] 26)) (w.heap.size + 1) 26 #[.int .i64 0, .int .i64 0, .string ⟨#[]⟩] from by
   have := Blk.new (w.alloc (.cells #[.int .i64 vk, .int .i64 vn, .string vs] 26)) 26 #[.int .i64 0, .int .i64 0, .string ⟨#[]⟩]
   rwa [size_alloc] at this)
  have HA := Lib.hid (show Blk ((w.alloc (.cells #[.int .i64 vk, .int .i64 vn, .string vs] 26)).alloc (.cells #[.int .i64 0, .int .i64 0, .string ⟨#[]⟩] 26)) w.heap.size 26 #[.int .i64 vk, .int .i64 vn, .string vs] from (Blk.new w _ _).alloc _)
  have HW := Lib.hid (((Ext.refl w).alloc (.cells #[.int .i64 vk, .int .i64 vn, .string vs] 26)).alloc (.cells #[.int .i64 0, .int .i64 0, .string ⟨#[]⟩] 26))
  have cN := rnum_any vs hs
  obtain ⟨o, ho⟩ : ∃ o, tnL vs.data.toList = o := ⟨_, rfl⟩
  rw [ho] at cN hr
  have HO := Lib.hid ho
  have hoI : ∀ x, o = some x → -9223372036854775808 ≤ x ∧ x ≤ 9223372036854775807 := fun x hx => tnL_in (ho.trans hx)
  clear ho h2
  by_cases h3 : vk = 3
  ·rw [if_pos h3] at hr
   subst h3
   cases o with
   | none =>
    have HV := Lib.hid hr
    clear hr hoI
    go_enter Tryz.func115, Tryz.ntmps115
    go_wp2_with fail
    refine (cN _).mono ?_
    rintro e w1 ⟨he, rfl⟩
    unfold NumE at he
    simp only [Option.getD_none, Option.isSome_none] at he
    subst he
    obtain ⟨z0, z1, z2, y0, y1, y2⟩ := three HB.out
    go_wp2_with fail
    exact bodyPost_ret (v := Vl.zero.v) (by simp [results, Tryz.results115, go_sem, Vl.zero, *]) rfl ⟨by rw [HV.out], by repeat (first | exact HW.out | refine Ext.alloc ?_ _ | refine Ext.setCell ?_ (by simp <;> omega) _)⟩
   | some x =>
    obtain ⟨hx1, hx2⟩ := hoI x rfl
    have HV := Lib.hid hr
    clear hr hoI
    go_enter Tryz.func115, Tryz.ntmps115
    go_wp2_with fail
    refine (cN _).mono ?_
    rintro e w1 ⟨he, rfl⟩
    unfold NumE at he
    simp only [Option.getD_some, Option.isSome_some] at he
    subst he
    obtain ⟨x0, x1, x2, f0, f1, f2⟩ := three HA.out
    go_wp2_with fail
    refine (rnumber_any _ _).mono ?_
    rintro e w2 ⟨rfl, e2⟩
    have HB2 := Lib.hid (HB.out.ext e2)
    have HW2 := Lib.hid (HW.out.trans e2)
    clear x0 x1 x2 f0 f1 f2 e2
    obtain ⟨z0, z1, z2, y0, y1, y2⟩ := three HB2.out
    have hlt2 := HB2.out.lt
    unfold Vl.v iK
    go_wp2_with fail
    exact bodyPost_ret (v := (iK x).v) (by simp [results, Tryz.results115, go_sem, iK, sNone, *]) rfl ⟨by rw [← HV.out], by repeat (first | exact HW2.out | refine Ext.alloc ?_ _ | refine Ext.setCell ?_ (by simp <;> omega) _)⟩
  ·rw [if_neg h3] at hr
   have t3 : (vk == 3) = false := by rw [beq_eq_false_iff_ne]; exact h3
   have HV := Lib.hid hr
   clear hr h3
   go_enter Tryz.func115, Tryz.ntmps115
   go_wp2_with fail
   refine (cN _).mono ?_
   rintro e w1 ⟨he, rfl⟩
   unfold NumE at he
   generalize o.getD 0 = oi at he
   generalize o.isSome = ob at he
   subst he
   obtain ⟨x0, x1, x2, f0, f1, f2⟩ := three HA.out
   obtain ⟨z0, z1, z2, y0, y1, y2⟩ := three HB.out
   go_wp2_with fail
   exact bodyPost_ret (v := Vl.zero.v) (by simp [results, Tryz.results115, go_sem, Vl.zero, *]) rfl ⟨by rw [HV.out], by repeat (first | exact HW.out | refine Ext.alloc ?_ _ | refine Ext.setCell ?_ (by simp <;> omega) _)⟩
end Go.Proofs.YtfagldjhibdfhaaGreatDoor
