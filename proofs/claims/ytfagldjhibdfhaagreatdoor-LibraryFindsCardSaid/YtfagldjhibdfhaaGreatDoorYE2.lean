/- The document's call: what each function does, by its name. The document's call of any function; its Call. -/
import Derived.Test.YtfagldjhibdfhaaGreatDoorYE1
import Derived.Test.YtfagldjhibdfhaaGreatDoorYB5
import Derived.Test.YtfagldjhibdfhaaGreatDoorYD7
namespace Go.Proofs.YtfagldjhibdfhaaGreatDoor
open Go.RowKit
set_option linter.unusedVariables false
set_option linter.unusedSimpArgs false

def RdF (w : World) (g : Nat) (tv : Value) (H' : Hp) (x : Vl) (o : ByteArray) (e : Ending) (w' : World) : Prop := e = .returned (.tuple #[x.v, .string o]) ∧ RStep w g tv w' H'
theorem RdE.to_f {w w' : World} {g : Nat} {tv : Value} {r : Rs} {e : Ending} (h : RdE w g tv r e w') : RdF w g tv r.H (if r.w = sNone then r.v else Vl.zero) r.w e w' := h
theorem RdF.ext_ {w w2 : World} {g : Nat} {tv : Value} {H : Hp} (h : RHeapIn w g tv H) (he : Ext w w2) (u0 u1 u2 : Value) : RStep w g tv (((w2.setCell ⟨w.heap.size, 0, none⟩ u0).setCell ⟨w.heap.size, 1, none⟩ u1).setCell ⟨w.heap.size, 2, none⟩ u2) H :=
 (RS.of_ext h (((he.setCell (p := ⟨w.heap.size, 0, none⟩) (Nat.le_refl _) u0).setCell (p := ⟨w.heap.size, 1, none⟩) (Nat.le_refl _) u1).setCell (p := ⟨w.heap.size, 2, none⟩) (Nat.le_refl _) u2)).step
theorem RdF.of {w w1 w' : World} {g : Nat} {tv : Value} {H' : Hp} (he : Ext w w1) (hb : Blk w1 w.heap.size 26 zcells) (hn : ¬ RFoot g tv w.heap.size) (hs : RStep w1 g tv w' H') :
  Blk w' w.heap.size 26 zcells ∧ ∀ u0 u1 u2, RStep w g tv (((w'.setCell ⟨w.heap.size, 0, none⟩ u0).setCell ⟨w.heap.size, 1, none⟩ u1).setCell ⟨w.heap.size, 2, none⟩ u2) H' := by
 obtain ⟨tv', hs⟩ := hs
 have h2 := (hs.touch.block _ hb.lt hn).trans hb
 exact ⟨h2, fun u0 u1 u2 => ((RS.pre he hs).zeroed h2 (Nat.le_refl _) u0 u1 u2).step⟩
set_option maxRecDepth 100000 in
set_option maxHeartbeats 4000000 in
theorem rcall_char (g : Nat) (tv : Value) (H : Hp) (w : World) (h : RHeapIn w g tv H) (hL : LLaid w) (hlen : H.tabs.length ≤ 1000000000) (q : Option Addr) (cap : Nat) (l : List Vl) (ha : ArgsAt w q l) (hn : ∀ x ∈ l, in64 x.n) :
  Calls Tryz.prog 87 #[.pointer (some ⟨g, 0, none⟩), .string ⟨#[99, 104, 97, 114]⟩, .slice q l.length cap] w (RdE w g tv (charR H l)) := by
 show Calls _ _ _ _ (RdF w g tv (charR H l).H (if (charR H l).w = sNone then (charR H l).v else Vl.zero) (charR H l).w)
 have HI0 := Lib.hid h
 have HL := Lib.hid hL
 have HB := Lib.hid (Blk.new w 26 #[.int .i64 0, .int .i64 0, .string ⟨#[]⟩])
 have HW := Lib.hid ((Ext.refl w).alloc (.cells #[.int .i64 0, .int .i64 0, .string ⟨#[]⟩] 26))
 have HI := Lib.hid (h.ext HW.out)
 have NB : Hid (¬ RFoot g tv w.heap.size) := Lib.hid (fun hf => Nat.lt_irrefl _ (h.low hf))
 have HC := Lib.hid (rchar_any g tv H _ HI.out q cap l (ha.ext HW.out) hn)
 obtain ⟨xv, hxv⟩ : ∃ xv, (if (charR H l).w = sNone then (charR H l).v else Vl.zero) = xv := ⟨_, rfl⟩
 obtain ⟨ww, hww⟩ : ∃ ww, (charR H l).w = ww := ⟨_, rfl⟩
 obtain ⟨HH, hHH⟩ : ∃ HH, (charR H l).H = HH := ⟨_, rfl⟩
 rw [hxv, hww, hHH]
 have HXV := Lib.hid hxv
 have HWW := Lib.hid hww
 have HHH := Lib.hid hHH
 obtain ⟨xk, xn, xs⟩ := xv
 clear hxv hww hHH h ha hn
 go_enter Tryz.func87, Tryz.ntmps87
 go_wp2_with fail
 refine (Calls.mono HC.out (R' := RdF _ g tv HH ⟨xk, xn, xs⟩ ww) (fun e w' h => by have h9 := RdE.to_f h; rw [HXV.out, HWW.out, HHH.out] at h9; exact h9)).mono ?_
 rintro e w2 ⟨rfl, hs⟩
 have hq9 := RdF.of HW.out HB.out NB.out hs
 have B2 := Lib.hid hq9.1
 have S2 := Lib.hid hq9.2
 clear hs hq9
 obtain ⟨z0, z1, z2, y0, y1, y2⟩ := three B2.out
 have hlt2 := B2.out.lt
 go_wp2_with fail
 exact bodyPost_ret (v := .tuple #[(⟨xk, xn, xs⟩ : Vl).v, .string ww]) (by simp [results, Tryz.results87, go_sem, Vl.zero, *]) rfl ⟨rfl, S2.out _ _ _⟩
set_option maxRecDepth 100000 in
set_option maxHeartbeats 4000000 in
theorem rcall_insert2 (g : Nat) (tv : Value) (H : Hp) (w : World) (h : RHeapIn w g tv H) (hL : LLaid w) (hlen : H.tabs.length ≤ 1000000000) (b o cap : Nat) (x0 x1 : Vl) (hof : ofW H x0 = sNone) (hv : in64 x1.n) (a0 : ArgAt w b o x0) (a2 : ArgAt w b (o + 3) x1) (nb : ¬ RFoot g tv b) :
  Calls Tryz.prog 87 #[.pointer (some ⟨g, 0, none⟩), .string ⟨#[105, 110, 115, 101, 114, 116]⟩, .slice (some ⟨b, o, none⟩) 2 cap] w (RdE w g tv (insertR H x0 (lenV H x0 + 1) x1)) := by
 show Calls _ _ _ _ (RdF w g tv (insertR H x0 (lenV H x0 + 1) x1).H (if (insertR H x0 (lenV H x0 + 1) x1).w = sNone then (insertR H x0 (lenV H x0 + 1) x1).v else Vl.zero) (insertR H x0 (lenV H x0 + 1) x1).w)
 have HI0 := Lib.hid h
 have HL := Lib.hid hL
 have HB := Lib.hid (Blk.new w 26 #[.int .i64 0, .int .i64 0, .string ⟨#[]⟩])
 have HW := Lib.hid ((Ext.refl w).alloc (.cells #[.int .i64 0, .int .i64 0, .string ⟨#[]⟩] 26))
 have HI := Lib.hid (h.ext HW.out)
 have NB : Hid (¬ RFoot g tv w.heap.size) := Lib.hid (fun hf => Nat.lt_irrefl _ (h.low hf))
 have HC := Lib.hid (rinsert2 g tv H _ HI.out (by omega) b o cap x0 x1 hof hv (a0.ext HW.out) (a2.ext HW.out) nb)
 obtain ⟨xv, hxv⟩ : ∃ xv, (if (insertR H x0 (lenV H x0 + 1) x1).w = sNone then (insertR H x0 (lenV H x0 + 1) x1).v else Vl.zero) = xv := ⟨_, rfl⟩
 obtain ⟨ww, hww⟩ : ∃ ww, (insertR H x0 (lenV H x0 + 1) x1).w = ww := ⟨_, rfl⟩
 obtain ⟨HH, hHH⟩ : ∃ HH, (insertR H x0 (lenV H x0 + 1) x1).H = HH := ⟨_, rfl⟩
 rw [hxv, hww, hHH]
 have HXV := Lib.hid hxv
 have HWW := Lib.hid hww
 have HHH := Lib.hid hHH
 obtain ⟨xk, xn, xs⟩ := xv
 clear hxv hww hHH h a0 a2 hof hv
 go_enter Tryz.func87, Tryz.ntmps87
 go_wp2_with fail
 refine (Calls.mono HC.out (R' := RdF _ g tv HH ⟨xk, xn, xs⟩ ww) (fun e w' h => by have h9 := RdE.to_f h; rw [HXV.out, HWW.out, HHH.out] at h9; exact h9)).mono ?_
 rintro e w2 ⟨rfl, hs⟩
 have hq9 := RdF.of HW.out HB.out NB.out hs
 have B2 := Lib.hid hq9.1
 have S2 := Lib.hid hq9.2
 clear hs hq9
 obtain ⟨z0, z1, z2, y0, y1, y2⟩ := three B2.out
 have hlt2 := B2.out.lt
 go_wp2_with fail
 exact bodyPost_ret (v := .tuple #[(⟨xk, xn, xs⟩ : Vl).v, .string ww]) (by simp [results, Tryz.results87, go_sem, Vl.zero, *]) rfl ⟨rfl, S2.out _ _ _⟩
set_option maxRecDepth 100000 in
set_option maxHeartbeats 4000000 in
theorem rcall_insert3 (g : Nat) (tv : Value) (H : Hp) (w : World) (h : RHeapIn w g tv H) (hL : LLaid w) (hlen : H.tabs.length ≤ 1000000000) (b o cap : Nat) (x0 x1 x2 : Vl) (hof : ofW H x0 = sNone) (hv : in64 x2.n) (a0 : ArgAt w b o x0) (a1 : ArgAt w b (o + 3) x1) (hp : in64 x1.n) (a2 : ArgAt w b (o + 6) x2) (nb : ¬ RFoot g tv b) :
  Calls Tryz.prog 87 #[.pointer (some ⟨g, 0, none⟩), .string ⟨#[105, 110, 115, 101, 114, 116]⟩, .slice (some ⟨b, o, none⟩) 3 cap] w (RdE w g tv (insertR H x0 x1.n x2)) := by
 show Calls _ _ _ _ (RdF w g tv (insertR H x0 x1.n x2).H (if (insertR H x0 x1.n x2).w = sNone then (insertR H x0 x1.n x2).v else Vl.zero) (insertR H x0 x1.n x2).w)
 have HI0 := Lib.hid h
 have HL := Lib.hid hL
 have HB := Lib.hid (Blk.new w 26 #[.int .i64 0, .int .i64 0, .string ⟨#[]⟩])
 have HW := Lib.hid ((Ext.refl w).alloc (.cells #[.int .i64 0, .int .i64 0, .string ⟨#[]⟩] 26))
 have HI := Lib.hid (h.ext HW.out)
 have NB : Hid (¬ RFoot g tv w.heap.size) := Lib.hid (fun hf => Nat.lt_irrefl _ (h.low hf))
 have HC := Lib.hid (rinsert3 g tv H _ HI.out (by omega) b o cap x0 x1 x2 hof hv (a0.ext HW.out) (a1.ext HW.out) hp (a2.ext HW.out) nb)
 obtain ⟨xv, hxv⟩ : ∃ xv, (if (insertR H x0 x1.n x2).w = sNone then (insertR H x0 x1.n x2).v else Vl.zero) = xv := ⟨_, rfl⟩
 obtain ⟨ww, hww⟩ : ∃ ww, (insertR H x0 x1.n x2).w = ww := ⟨_, rfl⟩
 obtain ⟨HH, hHH⟩ : ∃ HH, (insertR H x0 x1.n x2).H = HH := ⟨_, rfl⟩
 rw [hxv, hww, hHH]
 have HXV := Lib.hid hxv
 have HWW := Lib.hid hww
 have HHH := Lib.hid hHH
 obtain ⟨xk, xn, xs⟩ := xv
 clear hxv hww hHH h a0 a1 a2 hof hv hp
 go_enter Tryz.func87, Tryz.ntmps87
 go_wp2_with fail
 refine (Calls.mono HC.out (R' := RdF _ g tv HH ⟨xk, xn, xs⟩ ww) (fun e w' h => by have h9 := RdE.to_f h; rw [HXV.out, HWW.out, HHH.out] at h9; exact h9)).mono ?_
 rintro e w2 ⟨rfl, hs⟩
 have hq9 := RdF.of HW.out HB.out NB.out hs
 have B2 := Lib.hid hq9.1
 have S2 := Lib.hid hq9.2
 clear hs hq9
 obtain ⟨z0, z1, z2, y0, y1, y2⟩ := three B2.out
 have hlt2 := B2.out.lt
 go_wp2_with fail
 exact bodyPost_ret (v := .tuple #[(⟨xk, xn, xs⟩ : Vl).v, .string ww]) (by simp [results, Tryz.results87, go_sem, Vl.zero, *]) rfl ⟨rfl, S2.out _ _ _⟩
set_option maxRecDepth 100000 in
set_option maxHeartbeats 4000000 in
theorem rcall_remove1 (g : Nat) (tv : Value) (H : Hp) (w : World) (h : RHeapIn w g tv H) (hL : LLaid w) (hlen : H.tabs.length ≤ 1000000000) (b o cap : Nat) (x0 : Vl) (hof : ofW H x0 = sNone) (a0 : ArgAt w b o x0) (nb : ¬ RFoot g tv b) :
  Calls Tryz.prog 87 #[.pointer (some ⟨g, 0, none⟩), .string ⟨#[114, 101, 109, 111, 118, 101]⟩, .slice (some ⟨b, o, none⟩) 1 cap] w (RdE w g tv (removeR H x0 none)) := by
 show Calls _ _ _ _ (RdF w g tv (removeR H x0 none).H (if (removeR H x0 none).w = sNone then (removeR H x0 none).v else Vl.zero) (removeR H x0 none).w)
 have HI0 := Lib.hid h
 have HL := Lib.hid hL
 have HB := Lib.hid (Blk.new w 26 #[.int .i64 0, .int .i64 0, .string ⟨#[]⟩])
 have HW := Lib.hid ((Ext.refl w).alloc (.cells #[.int .i64 0, .int .i64 0, .string ⟨#[]⟩] 26))
 have HI := Lib.hid (h.ext HW.out)
 have NB : Hid (¬ RFoot g tv w.heap.size) := Lib.hid (fun hf => Nat.lt_irrefl _ (h.low hf))
 have HC := Lib.hid (rremove1 g tv H _ HI.out (by omega) b o cap x0 hof (a0.ext HW.out) nb)
 obtain ⟨xv, hxv⟩ : ∃ xv, (if (removeR H x0 none).w = sNone then (removeR H x0 none).v else Vl.zero) = xv := ⟨_, rfl⟩
 obtain ⟨ww, hww⟩ : ∃ ww, (removeR H x0 none).w = ww := ⟨_, rfl⟩
 obtain ⟨HH, hHH⟩ : ∃ HH, (removeR H x0 none).H = HH := ⟨_, rfl⟩
 rw [hxv, hww, hHH]
 have HXV := Lib.hid hxv
 have HWW := Lib.hid hww
 have HHH := Lib.hid hHH
 obtain ⟨xk, xn, xs⟩ := xv
 clear hxv hww hHH h a0 hof
 go_enter Tryz.func87, Tryz.ntmps87
 go_wp2_with fail
 refine (Calls.mono HC.out (R' := RdF _ g tv HH ⟨xk, xn, xs⟩ ww) (fun e w' h => by have h9 := RdE.to_f h; rw [HXV.out, HWW.out, HHH.out] at h9; exact h9)).mono ?_
 rintro e w2 ⟨rfl, hs⟩
 have hq9 := RdF.of HW.out HB.out NB.out hs
 have B2 := Lib.hid hq9.1
 have S2 := Lib.hid hq9.2
 clear hs hq9
 obtain ⟨z0, z1, z2, y0, y1, y2⟩ := three B2.out
 have hlt2 := B2.out.lt
 go_wp2_with fail
 exact bodyPost_ret (v := .tuple #[(⟨xk, xn, xs⟩ : Vl).v, .string ww]) (by simp [results, Tryz.results87, go_sem, Vl.zero, *]) rfl ⟨rfl, S2.out _ _ _⟩
set_option maxRecDepth 100000 in
set_option maxHeartbeats 4000000 in
theorem rcall_remove2 (g : Nat) (tv : Value) (H : Hp) (w : World) (h : RHeapIn w g tv H) (hL : LLaid w) (hlen : H.tabs.length ≤ 1000000000) (b o cap : Nat) (x0 x1 : Vl) (hof : ofW H x0 = sNone) (a0 : ArgAt w b o x0) (a1 : ArgAt w b (o + 3) x1) (hp : in64 x1.n) (nb : ¬ RFoot g tv b) :
  Calls Tryz.prog 87 #[.pointer (some ⟨g, 0, none⟩), .string ⟨#[114, 101, 109, 111, 118, 101]⟩, .slice (some ⟨b, o, none⟩) 2 cap] w (RdE w g tv (removeR H x0 (some x1.n))) := by
 show Calls _ _ _ _ (RdF w g tv (removeR H x0 (some x1.n)).H (if (removeR H x0 (some x1.n)).w = sNone then (removeR H x0 (some x1.n)).v else Vl.zero) (removeR H x0 (some x1.n)).w)
 have HI0 := Lib.hid h
 have HL := Lib.hid hL
 have HB := Lib.hid (Blk.new w 26 #[.int .i64 0, .int .i64 0, .string ⟨#[]⟩])
 have HW := Lib.hid ((Ext.refl w).alloc (.cells #[.int .i64 0, .int .i64 0, .string ⟨#[]⟩] 26))
 have HI := Lib.hid (h.ext HW.out)
 have NB : Hid (¬ RFoot g tv w.heap.size) := Lib.hid (fun hf => Nat.lt_irrefl _ (h.low hf))
 have HC := Lib.hid (rremove2 g tv H _ HI.out (by omega) b o cap x0 x1 hof (a0.ext HW.out) (a1.ext HW.out) hp nb)
 obtain ⟨xv, hxv⟩ : ∃ xv, (if (removeR H x0 (some x1.n)).w = sNone then (removeR H x0 (some x1.n)).v else Vl.zero) = xv := ⟨_, rfl⟩
 obtain ⟨ww, hww⟩ : ∃ ww, (removeR H x0 (some x1.n)).w = ww := ⟨_, rfl⟩
 obtain ⟨HH, hHH⟩ : ∃ HH, (removeR H x0 (some x1.n)).H = HH := ⟨_, rfl⟩
 rw [hxv, hww, hHH]
 have HXV := Lib.hid hxv
 have HWW := Lib.hid hww
 have HHH := Lib.hid hHH
 obtain ⟨xk, xn, xs⟩ := xv
 clear hxv hww hHH h a0 a1 hof hp
 go_enter Tryz.func87, Tryz.ntmps87
 go_wp2_with fail
 refine (Calls.mono HC.out (R' := RdF _ g tv HH ⟨xk, xn, xs⟩ ww) (fun e w' h => by have h9 := RdE.to_f h; rw [HXV.out, HWW.out, HHH.out] at h9; exact h9)).mono ?_
 rintro e w2 ⟨rfl, hs⟩
 have hq9 := RdF.of HW.out HB.out NB.out hs
 have B2 := Lib.hid hq9.1
 have S2 := Lib.hid hq9.2
 clear hs hq9
 obtain ⟨z0, z1, z2, y0, y1, y2⟩ := three B2.out
 have hlt2 := B2.out.lt
 go_wp2_with fail
 exact bodyPost_ret (v := .tuple #[(⟨xk, xn, xs⟩ : Vl).v, .string ww]) (by simp [results, Tryz.results87, go_sem, Vl.zero, *]) rfl ⟨rfl, S2.out _ _ _⟩
set_option maxRecDepth 100000 in
set_option maxHeartbeats 4000000 in
theorem rcall_keys (g : Nat) (tv : Value) (H : Hp) (w : World) (h : RHeapIn w g tv H) (hL : LLaid w) (hlen : H.tabs.length ≤ 1000000000) (b o cap : Nat) (x0 : Vl) (hof : ofW H x0 = sNone) (a0 : ArgAt w b o x0) :
  Calls Tryz.prog 87 #[.pointer (some ⟨g, 0, none⟩), .string ⟨#[107, 101, 121, 115]⟩, .slice (some ⟨b, o, none⟩) 1 cap] w (RdE w g tv (keyTR H x0)) := by
 show Calls _ _ _ _ (RdF w g tv (keyTR H x0).H (if (keyTR H x0).w = sNone then (keyTR H x0).v else Vl.zero) (keyTR H x0).w)
 have HI0 := Lib.hid h
 have HL := Lib.hid hL
 have HB := Lib.hid (Blk.new w 26 #[.int .i64 0, .int .i64 0, .string ⟨#[]⟩])
 have HW := Lib.hid ((Ext.refl w).alloc (.cells #[.int .i64 0, .int .i64 0, .string ⟨#[]⟩] 26))
 have HI := Lib.hid (h.ext HW.out)
 have NB : Hid (¬ RFoot g tv w.heap.size) := Lib.hid (fun hf => Nat.lt_irrefl _ (h.low hf))
 have HC := Lib.hid (rkeys_do g tv H _ HI.out hlen x0 hof)
 have c0 := (a0.ext HW.out).k
 have c1 := (a0.ext HW.out).n
 have c2 := (a0.ext HW.out).s
 have hb := (a0.ext HW.out).lt
 obtain ⟨xv, hxv⟩ : ∃ xv, (if (keyTR H x0).w = sNone then (keyTR H x0).v else Vl.zero) = xv := ⟨_, rfl⟩
 obtain ⟨ww, hww⟩ : ∃ ww, (keyTR H x0).w = ww := ⟨_, rfl⟩
 obtain ⟨HH, hHH⟩ : ∃ HH, (keyTR H x0).H = HH := ⟨_, rfl⟩
 rw [hxv, hww, hHH]
 have HXV := Lib.hid hxv
 have HWW := Lib.hid hww
 have HHH := Lib.hid hHH
 obtain ⟨xk, xn, xs⟩ := xv
 obtain ⟨k0, n0, s0⟩ := x0
 simp only at c0 c1 c2
 clear hxv hww hHH h a0 hof
 go_enter Tryz.func87, Tryz.ntmps87
 go_wp2_with fail
 refine (Calls.mono HC.out (R' := RdF _ g tv HH ⟨xk, xn, xs⟩ ww) (fun e w' h => by have h9 := RdE.to_f h; rw [HXV.out, HWW.out, HHH.out] at h9; exact h9)).mono ?_
 rintro e w2 ⟨rfl, hs⟩
 have hq9 := RdF.of HW.out HB.out NB.out hs
 have B2 := Lib.hid hq9.1
 have S2 := Lib.hid hq9.2
 clear hs hq9
 obtain ⟨z0, z1, z2, y0, y1, y2⟩ := three B2.out
 have hlt2 := B2.out.lt
 go_wp2_with fail
 exact bodyPost_ret (v := .tuple #[(⟨xk, xn, xs⟩ : Vl).v, .string ww]) (by simp [results, Tryz.results87, go_sem, Vl.zero, *]) rfl ⟨rfl, S2.out _ _ _⟩
set_option maxRecDepth 100000 in
set_option maxHeartbeats 4000000 in
theorem rcall_find (g : Nat) (tv : Value) (H : Hp) (w : World) (h : RHeapIn w g tv H) (hL : LLaid w) (hlen : H.tabs.length ≤ 1000000000) (b o cap : Nat) (x0 x1 : Vl) (a0 : ArgAt w b o x0) (a1 : ArgAt w b (o + 3) x1) (hs : x0.s.size ≤ 1048576) (ht : x1.s.size ≤ 1048576) :
  Calls Tryz.prog 87 #[.pointer (some ⟨g, 0, none⟩), .string ⟨#[102, 105, 110, 100]⟩, .slice (some ⟨b, o, none⟩) 2 cap] w (RdE w g tv (.ok H (findV x0.s x1.s))) := by
 show Calls _ _ _ _ (RdF w g tv H (findV x0.s x1.s) sNone)
 have HI0 := Lib.hid h
 have HL := Lib.hid hL
 have HB := Lib.hid (Blk.new w 26 #[.int .i64 0, .int .i64 0, .string ⟨#[]⟩])
 have HW := Lib.hid ((Ext.refl w).alloc (.cells #[.int .i64 0, .int .i64 0, .string ⟨#[]⟩] 26))
 have c2 := (a0.ext HW.out).s
 have d2 := (a1.ext HW.out).s
 have hb := (a0.ext HW.out).lt
 have hbne : ¬ b = w.heap.size := by have := a0.lt; omega
 have HC := Lib.hid (fun W => rfind_any x0.s x1.s hs ht W)
 obtain ⟨xv, hxv⟩ : ∃ xv, findV x0.s x1.s = xv := ⟨_, rfl⟩
 rw [hxv] at HC
 rw [hxv]
 obtain ⟨xk, xn, xs⟩ := xv
 obtain ⟨k0, n0, s0⟩ := x0
 obtain ⟨k1, n1, s1⟩ := x1
 simp only at c2 d2 HC
 clear hxv h a0 a1 hs ht
 go_enter Tryz.func87, Tryz.ntmps87
 go_wp2_with fail
 have hbw : b < (w.alloc (.cells #[.int .i64 0, .int .i64 0, .string ⟨#[]⟩] 26)).heap.size := hb
 have hbz : ¬ w.heap.size = b := fun e => hbne e.symm
 go_region_held3 (fun w' => w'.cell? ⟨b, o + 2, none⟩ = some (.string s0) ∧ w'.cell? ⟨b, o + 3 + 2, none⟩ = some (.string s1)) (go_keep)
  (first
   | (go_at_call 119; refine (HC.out _).mono ?_; rintro e w2 ⟨rfl, e2⟩; have E2 := Lib.hid (show Ext (w.alloc (.cells #[.int .i64 0, .int .i64 0, .string ⟨#[]⟩] 26)) w2 from (Ext.refl _).drew.trans e2); have qc2 := (E2.out.cells.1 _ _ hbw).trans c2; have qd2 := (E2.out.cells.1 _ _ hbw).trans d2; have B2 := Lib.hid (HB.out.ext E2.out); have E2 := Lib.hid (HW.out.trans E2.out); obtain ⟨z0, z1, z2, y0, y1, y2⟩ := three B2.out; have hlt2 := B2.out.lt; clear e2))
 all_goals go_wp2_with fail
 all_goals exact bodyPost_ret (v := .tuple #[(⟨xk, xn, xs⟩ : Vl).v, .string sNone]) (by simp [results, Tryz.results87, go_sem, Vl.zero, sNone, *]) rfl ⟨rfl, RdF.ext_ HI0.out E2.out _ _ _⟩
set_option maxRecDepth 100000 in
set_option maxHeartbeats 4000000 in
theorem rcall_byte (g : Nat) (tv : Value) (H : Hp) (w : World) (h : RHeapIn w g tv H) (hL : LLaid w) (hlen : H.tabs.length ≤ 1000000000) (b o cap : Nat) (x0 x1 : Vl) (a0 : ArgAt w b o x0) (a1 : ArgAt w b (o + 3) x1) (hs : x0.s.size ≤ 1048576) (hn : in64 x1.n) :
  Calls Tryz.prog 87 #[.pointer (some ⟨g, 0, none⟩), .string ⟨#[98, 121, 116, 101]⟩, .slice (some ⟨b, o, none⟩) 2 cap] w (RdE w g tv (.ok H (byteV x0.s x1.n))) := by
 show Calls _ _ _ _ (RdF w g tv H (byteV x0.s x1.n) sNone)
 have HI0 := Lib.hid h
 have HL := Lib.hid hL
 have HB := Lib.hid (Blk.new w 26 #[.int .i64 0, .int .i64 0, .string ⟨#[]⟩])
 have HW := Lib.hid ((Ext.refl w).alloc (.cells #[.int .i64 0, .int .i64 0, .string ⟨#[]⟩] 26))
 have c2 := (a0.ext HW.out).s
 have d2 := (a1.ext HW.out).n
 have hb := (a0.ext HW.out).lt
 have hbne : ¬ b = w.heap.size := by have := a0.lt; omega
 have HC := Lib.hid (fun W => rat_any x0.s x1.n hn hs W)
 obtain ⟨xv, hxv⟩ : ∃ xv, byteV x0.s x1.n = xv := ⟨_, rfl⟩
 rw [hxv] at HC
 rw [hxv]
 obtain ⟨xk, xn, xs⟩ := xv
 obtain ⟨k0, n0, s0⟩ := x0
 obtain ⟨k1, n1, s1⟩ := x1
 simp only at c2 d2 HC
 clear hxv h a0 a1 hs hn
 go_enter Tryz.func87, Tryz.ntmps87
 go_wp2_with fail
 have hbw : b < (w.alloc (.cells #[.int .i64 0, .int .i64 0, .string ⟨#[]⟩] 26)).heap.size := hb
 have hbz : ¬ w.heap.size = b := fun e => hbne e.symm
 go_region_held3 (fun w' => w'.cell? ⟨b, o + 2, none⟩ = some (.string s0) ∧ w'.cell? ⟨b, o + 3 + 1, none⟩ = some (.int .i64 n1)) (go_keep)
  (first
   | (go_at_call 120; refine (HC.out _).mono ?_; rintro e w2 ⟨rfl, e2⟩; have E2 := Lib.hid (show Ext (w.alloc (.cells #[.int .i64 0, .int .i64 0, .string ⟨#[]⟩] 26)) w2 from (Ext.refl _).drew.trans e2); have qc2 := (E2.out.cells.1 _ _ hbw).trans c2; have qd2 := (E2.out.cells.1 _ _ hbw).trans d2; have B2 := Lib.hid (HB.out.ext E2.out); have E2 := Lib.hid (HW.out.trans E2.out); obtain ⟨z0, z1, z2, y0, y1, y2⟩ := three B2.out; have hlt2 := B2.out.lt; clear e2))
 all_goals go_wp2_with fail
 all_goals exact bodyPost_ret (v := .tuple #[(⟨xk, xn, xs⟩ : Vl).v, .string sNone]) (by simp [results, Tryz.results87, go_sem, Vl.zero, sNone, *]) rfl ⟨rfl, RdF.ext_ HI0.out E2.out _ _ _⟩
set_option maxRecDepth 100000 in
set_option maxHeartbeats 4000000 in
theorem rcall_tonumber (g : Nat) (tv : Value) (H : Hp) (w : World) (h : RHeapIn w g tv H) (hL : LLaid w) (hlen : H.tabs.length ≤ 1000000000) (b o cap : Nat) (x0 : Vl) (a0 : ArgAt w b o x0) (hs : x0.s.size ≤ 1048576) :
  Calls Tryz.prog 87 #[.pointer (some ⟨g, 0, none⟩), .string ⟨#[116, 111, 110, 117, 109, 98, 101, 114]⟩, .slice (some ⟨b, o, none⟩) 1 cap] w (RdE w g tv (.ok H (tonumV x0))) := by
 show Calls _ _ _ _ (RdF w g tv H (tonumV x0) sNone)
 have HI0 := Lib.hid h
 have HL := Lib.hid hL
 have HB := Lib.hid (Blk.new w 26 #[.int .i64 0, .int .i64 0, .string ⟨#[]⟩])
 have HW := Lib.hid ((Ext.refl w).alloc (.cells #[.int .i64 0, .int .i64 0, .string ⟨#[]⟩] 26))
 have c0 := (a0.ext HW.out).k
 have c1 := (a0.ext HW.out).n
 have c2 := (a0.ext HW.out).s
 have hb := (a0.ext HW.out).lt
 have HC := Lib.hid (fun W => rtonum_any x0 (by omega) W)
 obtain ⟨xv, hxv⟩ : ∃ xv, tonumV x0 = xv := ⟨_, rfl⟩
 rw [hxv] at HC
 rw [hxv]
 obtain ⟨xk, xn, xs⟩ := xv
 obtain ⟨k0, n0, s0⟩ := x0
 simp only at c0 c1 c2
 clear hxv h a0 hs
 go_enter Tryz.func87, Tryz.ntmps87
 go_wp2_with fail
 refine (HC.out _).mono ?_
 rintro e w2 ⟨rfl, e2⟩
 have B2 := Lib.hid (HB.out.ext e2)
 have E2 := Lib.hid (HW.out.trans e2)
 clear e2
 obtain ⟨z0, z1, z2, y0, y1, y2⟩ := three B2.out
 have hlt2 := B2.out.lt
 go_wp2_with fail
 exact bodyPost_ret (v := .tuple #[(⟨xk, xn, xs⟩ : Vl).v, .string sNone]) (by simp [results, Tryz.results87, go_sem, Vl.zero, sNone, *]) rfl ⟨rfl, RdF.ext_ HI0.out E2.out _ _ _⟩
set_option maxRecDepth 100000 in
set_option maxHeartbeats 4000000 in
theorem rcall_rep (g : Nat) (tv : Value) (H : Hp) (w : World) (h : RHeapIn w g tv H) (hL : LLaid w) (hlen : H.tabs.length ≤ 1000000000) (b o cap : Nat) (x0 x1 : Vl) (a0 : ArgAt w b o x0) (a1 : ArgAt w b (o + 3) x1) (nb : ¬ RFoot g tv b) (hs : x0.s.size ≤ 1048576) (hn : in64 x1.n) :
  Calls Tryz.prog 87 #[.pointer (some ⟨g, 0, none⟩), .string ⟨#[114, 101, 112]⟩, .slice (some ⟨b, o, none⟩) 2 cap] w (RdE w g tv (repR H x0.s x1.n)) := by
 show Calls _ _ _ _ (RdF w g tv (repR H x0.s x1.n).H (if (repR H x0.s x1.n).w = sNone then (repR H x0.s x1.n).v else Vl.zero) (repR H x0.s x1.n).w)
 have HI0 := Lib.hid h
 have HL := Lib.hid hL
 have HB := Lib.hid (Blk.new w 26 #[.int .i64 0, .int .i64 0, .string ⟨#[]⟩])
 have HW := Lib.hid ((Ext.refl w).alloc (.cells #[.int .i64 0, .int .i64 0, .string ⟨#[]⟩] 26))
 have HI := Lib.hid (h.ext HW.out)
 have NB : Hid (¬ RFoot g tv w.heap.size) := Lib.hid (fun hf => Nat.lt_irrefl _ (h.low hf))
 have c2 := (a0.ext HW.out).s
 have d2 := (a1.ext HW.out).n
 have hb := (a0.ext HW.out).lt
 have hbne : ¬ b = w.heap.size := by have := a0.lt; omega
 have HC := Lib.hid (fun W hW => rrep_any g tv H W hW x0.s x1.n hn hs)
 obtain ⟨xv, hxv⟩ : ∃ xv, (if (repR H x0.s x1.n).w = sNone then (repR H x0.s x1.n).v else Vl.zero) = xv := ⟨_, rfl⟩
 obtain ⟨ww, hww⟩ : ∃ ww, (repR H x0.s x1.n).w = ww := ⟨_, rfl⟩
 obtain ⟨HH, hHH⟩ : ∃ HH, (repR H x0.s x1.n).H = HH := ⟨_, rfl⟩
 rw [hxv, hww, hHH]
 have HXV := Lib.hid hxv
 have HWW := Lib.hid hww
 have HHH := Lib.hid hHH
 obtain ⟨xk, xn, xs⟩ := xv
 obtain ⟨k0, n0, s0⟩ := x0
 obtain ⟨k1, n1, s1⟩ := x1
 simp only at c2 d2 HC
 clear hxv hww hHH h a0 a1 hs hn
 go_enter Tryz.func87, Tryz.ntmps87
 go_wp2_with fail
 have hbw : b < (w.alloc (.cells #[.int .i64 0, .int .i64 0, .string ⟨#[]⟩] 26)).heap.size := hb
 have hbz : ¬ w.heap.size = b := fun e => hbne e.symm
 go_region_held3 (fun w' => w'.cell? ⟨b, o + 2, none⟩ = some (.string s0) ∧ w'.cell? ⟨b, o + 3 + 1, none⟩ = some (.int .i64 n1)) (go_keep)
  (first
   | (go_at_call 118; refine (Calls.mono (HC.out _ (HI.out.ext (Ext.refl _).drew)) (R' := RdF _ g tv HH ⟨xk, xn, xs⟩ ww) (fun e w' h => by have h9 := RdE.to_f h; rw [HXV.out, HWW.out, HHH.out] at h9; exact h9)).mono ?_; rintro e w2 ⟨rfl, hs⟩; have hs2 := hs; obtain ⟨tq, hq⟩ := hs2; have qc2 := (hq.touch.cells.1 b _ hbw nb).trans c2; have qd2 := (hq.touch.cells.1 b _ hbw nb).trans d2; have hq9 := RdF.of (HW.out.drew) (HB.out.drew) NB.out hs; have B2 := Lib.hid hq9.1; have S2 := Lib.hid hq9.2; obtain ⟨z0, z1, z2, y0, y1, y2⟩ := three B2.out; have hlt2 := B2.out.lt; clear hs hq hq9))
 all_goals go_wp2_with fail
 all_goals exact bodyPost_ret (v := .tuple #[(⟨xk, xn, xs⟩ : Vl).v, .string ww]) (by simp [results, Tryz.results87, go_sem, Vl.zero, *]) rfl ⟨rfl, S2.out _ _ _⟩
set_option maxRecDepth 100000 in
set_option maxHeartbeats 4000000 in
theorem rcall_concat (g : Nat) (tv : Value) (H : Hp) (w : World) (h : RHeapIn w g tv H) (hL : LLaid w) (hlen : H.tabs.length ≤ 1000000000) (b o cap : Nat) (x0 x1 : Vl) (a0 : ArgAt w b o x0) (a1 : ArgAt w b (o + 3) x1) (nb : ¬ RFoot g tv b) (hof : ofW H x0 = sNone) (hs : x1.s.size ≤ 1048576) :
  Calls Tryz.prog 87 #[.pointer (some ⟨g, 0, none⟩), .string ⟨#[99, 111, 110, 99, 97, 116]⟩, .slice (some ⟨b, o, none⟩) 2 cap] w (RdE w g tv (concatR H x0 x1.s)) := by
 show Calls _ _ _ _ (RdF w g tv (concatR H x0 x1.s).H (if (concatR H x0 x1.s).w = sNone then (concatR H x0 x1.s).v else Vl.zero) (concatR H x0 x1.s).w)
 have HI0 := Lib.hid h
 have HL := Lib.hid hL
 have HB := Lib.hid (Blk.new w 26 #[.int .i64 0, .int .i64 0, .string ⟨#[]⟩])
 have HW := Lib.hid ((Ext.refl w).alloc (.cells #[.int .i64 0, .int .i64 0, .string ⟨#[]⟩] 26))
 have HI := Lib.hid (h.ext HW.out)
 have NB : Hid (¬ RFoot g tv w.heap.size) := Lib.hid (fun hf => Nat.lt_irrefl _ (h.low hf))
 have c0 := (a0.ext HW.out).k
 have c1 := (a0.ext HW.out).n
 have c2 := (a0.ext HW.out).s
 have hb := (a0.ext HW.out).lt
 have d2 := (a1.ext HW.out).s
 have hbne : ¬ b = w.heap.size := by have := a0.lt; omega
 have HC := Lib.hid (fun (W : World) hW (hE : Ext w W) => rconcat_any g tv H W hW (HL.out.ext hE) (by omega) x0 hof x1.s hs)
 obtain ⟨xv, hxv⟩ : ∃ xv, (if (concatR H x0 x1.s).w = sNone then (concatR H x0 x1.s).v else Vl.zero) = xv := ⟨_, rfl⟩
 obtain ⟨ww, hww⟩ : ∃ ww, (concatR H x0 x1.s).w = ww := ⟨_, rfl⟩
 obtain ⟨HH, hHH⟩ : ∃ HH, (concatR H x0 x1.s).H = HH := ⟨_, rfl⟩
 rw [hxv, hww, hHH]
 have HXV := Lib.hid hxv
 have HWW := Lib.hid hww
 have HHH := Lib.hid hHH
 obtain ⟨xk, xn, xs⟩ := xv
 obtain ⟨k0, n0, s0⟩ := x0
 obtain ⟨k1, n1, s1⟩ := x1
 simp only at c0 c1 c2 d2 HC
 clear hxv hww hHH h a0 a1 hof hs
 go_enter Tryz.func87, Tryz.ntmps87
 go_wp2_with fail
 have hbw : b < (w.alloc (.cells #[.int .i64 0, .int .i64 0, .string ⟨#[]⟩] 26)).heap.size := hb
 have hbz : ¬ w.heap.size = b := fun e => hbne e.symm
 go_region_held3 (fun w' => w'.cell? ⟨b, o, none⟩ = some (.int .i64 k0) ∧ w'.cell? ⟨b, o + 1, none⟩ = some (.int .i64 n0) ∧ w'.cell? ⟨b, o + 2, none⟩ = some (.string s0) ∧ w'.cell? ⟨b, o + 3 + 2, none⟩ = some (.string s1)) (go_keep)
  (first
   | (go_at_call 122; refine (Calls.mono (HC.out _ (HI.out.ext (Ext.refl _).drew) HW.out.drew) (R' := RdF _ g tv HH ⟨xk, xn, xs⟩ ww) (fun e w' h => by have h9 := RdE.to_f h; rw [HXV.out, HWW.out, HHH.out] at h9; exact h9)).mono ?_; rintro e w2 ⟨rfl, hs⟩; have hs2 := hs; obtain ⟨tq, hq⟩ := hs2; have qc0 := (hq.touch.cells.1 b _ hbw nb).trans c0; have qc1 := (hq.touch.cells.1 b _ hbw nb).trans c1; have qc2 := (hq.touch.cells.1 b _ hbw nb).trans c2; have qd2 := (hq.touch.cells.1 b _ hbw nb).trans d2; have hq9 := RdF.of (HW.out.drew) (HB.out.drew) NB.out hs; have B2 := Lib.hid hq9.1; have S2 := Lib.hid hq9.2; obtain ⟨z0, z1, z2, y0, y1, y2⟩ := three B2.out; have hlt2 := B2.out.lt; clear hs hq hq9))
 all_goals go_wp2_with fail
 all_goals exact bodyPost_ret (v := .tuple #[(⟨xk, xn, xs⟩ : Vl).v, .string ww]) (by simp [results, Tryz.results87, go_sem, Vl.zero, *]) rfl ⟨rfl, S2.out _ _ _⟩
set_option maxRecDepth 100000 in
set_option maxHeartbeats 4000000 in
theorem rcall_tostring (g : Nat) (tv : Value) (H : Hp) (w : World) (h : RHeapIn w g tv H) (hL : LLaid w) (hlen : H.tabs.length ≤ 1000000000) (b o cap : Nat) (x0 : Vl) (a0 : ArgAt w b o x0) (hs : x0.s.size ≤ 1048576) (hk : 0 ≤ x0.k ∧ x0.k ≤ 4) (hn : in64 x0.n) :
  Calls Tryz.prog 87 #[.pointer (some ⟨g, 0, none⟩), .string ⟨#[116, 111, 115, 116, 114, 105, 110, 103]⟩, .slice (some ⟨b, o, none⟩) 1 cap] w (RdE w g tv (mkR H (toldV x0))) := by
 show Calls _ _ _ _ (RdF w g tv (mkR H (toldV x0)).H (if (mkR H (toldV x0)).w = sNone then (mkR H (toldV x0)).v else Vl.zero) (mkR H (toldV x0)).w)
 have HI0 := Lib.hid h
 have HL := Lib.hid hL
 have HB := Lib.hid (Blk.new w 26 #[.int .i64 0, .int .i64 0, .string ⟨#[]⟩])
 have HW := Lib.hid ((Ext.refl w).alloc (.cells #[.int .i64 0, .int .i64 0, .string ⟨#[]⟩] 26))
 have HI := Lib.hid (h.ext HW.out)
 have NB : Hid (¬ RFoot g tv w.heap.size) := Lib.hid (fun hf => Nat.lt_irrefl _ (h.low hf))
 have c0 := (a0.ext HW.out).k
 have c1 := (a0.ext HW.out).n
 have c2 := (a0.ext HW.out).s
 have hb := (a0.ext HW.out).lt
 have HC := Lib.hid (fun (W : World) (hE : Ext w W) => rtold_any x0 hk hn W (HL.out.ext hE).pow)
 have HM := Lib.hid (fun (W : World) (hE : Ext w W) => (rmade_any g tv H (toldV x0) W (HI0.out.ext hE) (by have := told_len x0 hs hn; omega)).mono fun e w' a => MadeE.rd (HI0.out.ext hE) a)
 obtain ⟨xv, hxv⟩ : ∃ xv, (if (mkR H (toldV x0)).w = sNone then (mkR H (toldV x0)).v else Vl.zero) = xv := ⟨_, rfl⟩
 obtain ⟨ww, hww⟩ : ∃ ww, (mkR H (toldV x0)).w = ww := ⟨_, rfl⟩
 obtain ⟨HH, hHH⟩ : ∃ HH, (mkR H (toldV x0)).H = HH := ⟨_, rfl⟩
 rw [hxv, hww, hHH]
 have HXV := Lib.hid hxv
 have HWW := Lib.hid hww
 have HHH := Lib.hid hHH
 obtain ⟨xk, xn, xs⟩ := xv
 obtain ⟨k0, n0, s0⟩ := x0
 simp only at c0 c1 c2
 clear hxv hww hHH h a0 hs hk hn
 go_enter Tryz.func87, Tryz.ntmps87
 go_wp2_with fail
 refine (HC.out _ HW.out).mono ?_
 rintro e w3 ⟨rfl, e3⟩
 have B3 := Lib.hid (HB.out.ext e3)
 have E3 := Lib.hid (HW.out.trans e3)
 clear e3
 go_wp2_with fail
 refine (Calls.mono (HM.out _ E3.out) (R' := RdF _ g tv HH ⟨xk, xn, xs⟩ ww) (fun e w' h => by have h9 := RdE.to_f h; rw [HXV.out, HWW.out, HHH.out] at h9; exact h9)).mono ?_
 rintro e w2 ⟨rfl, hs⟩
 have hq9 := RdF.of E3.out B3.out NB.out hs
 have B2 := Lib.hid hq9.1
 have S2 := Lib.hid hq9.2
 clear hs hq9
 obtain ⟨z0, z1, z2, y0, y1, y2⟩ := three B2.out
 have hlt2 := B2.out.lt
 go_wp2_with fail
 exact bodyPost_ret (v := .tuple #[(⟨xk, xn, xs⟩ : Vl).v, .string ww]) (by simp [results, Tryz.results87, go_sem, Vl.zero, *]) rfl ⟨rfl, S2.out _ _ _⟩
set_option maxRecDepth 100000 in
set_option maxHeartbeats 4000000 in
theorem rcall_len (g : Nat) (tv : Value) (H : Hp) (w : World) (h : RHeapIn w g tv H) (hL : LLaid w) (hlen : H.tabs.length ≤ 1000000000) (b o cap : Nat) (x0 : Vl) (a0 : ArgAt w b o x0) :
  Calls Tryz.prog 87 #[.pointer (some ⟨g, 0, none⟩), .string ⟨#[108, 101, 110]⟩, .slice (some ⟨b, o, none⟩) 1 cap] w (RdE w g tv (lenR H x0)) := by
 show Calls _ _ _ _ (RdF w g tv (lenR H x0).H (if (lenR H x0).w = sNone then (lenR H x0).v else Vl.zero) (lenR H x0).w)
 have HI0 := Lib.hid h
 have HL := Lib.hid hL
 have HB := Lib.hid (Blk.new w 26 #[.int .i64 0, .int .i64 0, .string ⟨#[]⟩])
 have HW := Lib.hid ((Ext.refl w).alloc (.cells #[.int .i64 0, .int .i64 0, .string ⟨#[]⟩] 26))
 have HI := Lib.hid (h.ext HW.out)
 have NB : Hid (¬ RFoot g tv w.heap.size) := Lib.hid (fun hf => Nat.lt_irrefl _ (h.low hf))
 have c0 := (a0.ext HW.out).k
 have c1 := (a0.ext HW.out).n
 have c2 := (a0.ext HW.out).s
 have hb := (a0.ext HW.out).lt
 have HC := Lib.hid (fun (W : World) hW => rlen_any g tv H x0 W hW (by omega))
 obtain ⟨lw, hlw⟩ : ∃ lw, lenW H x0 = lw := ⟨_, rfl⟩
 obtain ⟨lv, hlv⟩ : ∃ lv, lenV H x0 = lv := ⟨_, rfl⟩
 rw [hlw, hlv] at HC
 have HRR : Hid (lenR H x0 = if lw = sNone then .ok H (iK lv) else .no H lw) := Lib.hid (by unfold lenR; rw [hlw, hlv])
 obtain ⟨xv, hxv⟩ : ∃ xv, (if (lenR H x0).w = sNone then (lenR H x0).v else Vl.zero) = xv := ⟨_, rfl⟩
 obtain ⟨ww, hww⟩ : ∃ ww, (lenR H x0).w = ww := ⟨_, rfl⟩
 obtain ⟨HH, hHH⟩ : ∃ HH, (lenR H x0).H = HH := ⟨_, rfl⟩
 rw [hxv, hww, hHH]
 have HXV := Lib.hid hxv
 have HWW := Lib.hid hww
 have HHH := Lib.hid hHH
 obtain ⟨xk, xn, xs⟩ := xv
 obtain ⟨k0, n0, s0⟩ := x0
 simp only at c0 c1 c2
 clear hxv hww hHH h a0 hlw hlv
 go_enter Tryz.func87, Tryz.ntmps87
 go_wp2_with fail
 refine (HC.out _ HI.out).mono ?_
 rintro e w3 ⟨rfl, e3⟩
 have B3 := Lib.hid (HB.out.ext e3)
 have E3 := Lib.hid (HW.out.trans e3)
 clear e3
 by_cases hs : lw = sNone
 ·subst hs
  have hq : sNone.toList = [] := sNone_list
  have h1 := HXV.out
  have h2 := HWW.out
  have h3 := HHH.out
  rw [HRR.out, if_pos rfl] at h1 h2 h3
  have h4 : iK lv = ⟨xk, xn, xs⟩ := by rw [← h1]; rfl
  have h5 : H = HH := h3
  have h6 : sNone = ww := h2
  have H4 := Lib.hid (And.intro h4 (And.intro h5 h6))
  clear h1 h2 h3 h4 h5 h6
  go_wp2_with fail
  refine (rnumber_any _ _).mono ?_
  rintro e w4 ⟨rfl, e4⟩
  have B4 := Lib.hid (B3.out.ext e4)
  have E4 := Lib.hid (E3.out.trans e4)
  clear e4
  obtain ⟨z0, z1, z2, y0, y1, y2⟩ := three B4.out
  have hlt2 := B4.out.lt
  unfold Vl.v iK
  go_wp2_with fail
  exact bodyPost_ret (v := .tuple #[(iK lv).v, .string sNone]) (by simp [results, Tryz.results87, go_sem, iK, sNone, *]) rfl ⟨by rw [H4.out.1, H4.out.2.2], by rw [← H4.out.2.1]; exact RdF.ext_ HI0.out E4.out _ _ _⟩
 ·have hst1 := str_ne_empty hs
  have h1 := HXV.out
  have h2 := HWW.out
  have h3 := HHH.out
  rw [HRR.out, if_neg hs] at h1 h2 h3
  have h4 : Vl.zero = ⟨xk, xn, xs⟩ := by rw [← h1]; exact (if_neg (show ¬ lw = sNone from hs)).symm
  have h5 : H = HH := h3
  have h6 : lw = ww := h2
  have H4 := Lib.hid (And.intro h4 (And.intro h5 h6))
  clear h1 h2 h3 h4 h5 h6 hs
  obtain ⟨z0, z1, z2, y0, y1, y2⟩ := three B3.out
  have hlt2 := B3.out.lt
  go_wp2_with fail
  exact bodyPost_ret (v := .tuple #[Vl.zero.v, .string lw]) (by simp [results, Tryz.results87, go_sem, Vl.zero, *]) rfl ⟨by rw [H4.out.1, H4.out.2.2], by rw [← H4.out.2.1]; exact RdF.ext_ HI0.out E3.out _ _ _⟩
set_option maxRecDepth 100000 in
set_option maxHeartbeats 4000000 in
theorem rcall_sub2 (g : Nat) (tv : Value) (H : Hp) (w : World) (h : RHeapIn w g tv H) (hL : LLaid w) (hlen : H.tabs.length ≤ 1000000000) (b o cap : Nat) (x0 x1 : Vl) (a0 : ArgAt w b o x0) (a1 : ArgAt w b (o + 3) x1) (nb : ¬ RFoot g tv b) (hs : x0.s.size ≤ 1048576) (hn : in64 x1.n) :
  Calls Tryz.prog 87 #[.pointer (some ⟨g, 0, none⟩), .string ⟨#[115, 117, 98]⟩, .slice (some ⟨b, o, none⟩) 2 cap] w (RdE w g tv (mkR H (ba (subL x0.s.data.toList x1.n (-1))))) := by
 show Calls _ _ _ _ (RdF w g tv (mkR H (ba (subL x0.s.data.toList x1.n (-1)))).H (if (mkR H (ba (subL x0.s.data.toList x1.n (-1)))).w = sNone then (mkR H (ba (subL x0.s.data.toList x1.n (-1)))).v else Vl.zero) (mkR H (ba (subL x0.s.data.toList x1.n (-1)))).w)
 have HI0 := Lib.hid h
 have HL := Lib.hid hL
 have HB := Lib.hid (Blk.new w 26 #[.int .i64 0, .int .i64 0, .string ⟨#[]⟩])
 have HW := Lib.hid ((Ext.refl w).alloc (.cells #[.int .i64 0, .int .i64 0, .string ⟨#[]⟩] 26))
 have HI := Lib.hid (h.ext HW.out)
 have NB : Hid (¬ RFoot g tv w.heap.size) := Lib.hid (fun hf => Nat.lt_irrefl _ (h.low hf))
 have c2 := (a0.ext HW.out).s
 have d2 := (a1.ext HW.out).n
 have hb := (a0.ext HW.out).lt
 have hbne : ¬ b = w.heap.size := by have := a0.lt; omega
 have HC := Lib.hid (fun W => rsub_any x0.s x1.n (-1) hn ⟨by decide, by decide⟩ hs W)
 have hsl : (subL x0.s.data.toList x1.n (-1)).length ≤ 1048576 := Nat.le_trans (subL_len _ _ _) hs
 have HM := Lib.hid (fun (W : World) (hE : Ext w W) => (rmade_any g tv H (ba (subL x0.s.data.toList x1.n (-1))) W (HI0.out.ext hE) (by rw [ba_size]; omega)).mono fun e w' a => MadeE.rd (HI0.out.ext hE) a)
 obtain ⟨xv, hxv⟩ : ∃ xv, (if (mkR H (ba (subL x0.s.data.toList x1.n (-1)))).w = sNone then (mkR H (ba (subL x0.s.data.toList x1.n (-1)))).v else Vl.zero) = xv := ⟨_, rfl⟩
 obtain ⟨ww, hww⟩ : ∃ ww, (mkR H (ba (subL x0.s.data.toList x1.n (-1)))).w = ww := ⟨_, rfl⟩
 obtain ⟨HH, hHH⟩ : ∃ HH, (mkR H (ba (subL x0.s.data.toList x1.n (-1)))).H = HH := ⟨_, rfl⟩
 rw [hxv, hww, hHH]
 have HXV := Lib.hid hxv
 have HWW := Lib.hid hww
 have HHH := Lib.hid hHH
 obtain ⟨xk, xn, xs⟩ := xv
 obtain ⟨k0, n0, s0⟩ := x0
 obtain ⟨k1, n1, s1⟩ := x1
 simp only at c2 d2 HC HM
 clear hxv hww hHH h a0 a1 hs hn hsl
 go_enter Tryz.func87, Tryz.ntmps87
 go_wp2_with fail
 have hbw : b < (w.alloc (.cells #[.int .i64 0, .int .i64 0, .string ⟨#[]⟩] 26)).heap.size := hb
 have hbz : ¬ w.heap.size = b := fun e => hbne e.symm
 go_region_held3 (fun w' => w'.cell? ⟨b, o + 2, none⟩ = some (.string s0) ∧ w'.cell? ⟨b, o + 3 + 1, none⟩ = some (.int .i64 n1)) (go_keep)
  (first
   | (go_at_call 117; refine (HC.out _).mono ?_; rintro e w3 ⟨rfl, e3⟩; have E3 := Lib.hid (show Ext (w.alloc (.cells #[.int .i64 0, .int .i64 0, .string ⟨#[]⟩] 26)) w3 from (Ext.refl _).drew.trans e3); have qc2 := (E3.out.cells.1 _ _ hbw).trans c2; have qd2 := (E3.out.cells.1 _ _ hbw).trans d2; have B3 := Lib.hid (HB.out.ext E3.out); have hb3 : b < w3.heap.size := Nat.lt_of_lt_of_le hbw E3.out.le; have E3 := Lib.hid (HW.out.trans E3.out); clear e3)
   | (go_at_call 113; refine (Calls.mono (HM.out _ E3.out) (R' := RdF _ g tv HH ⟨xk, xn, xs⟩ ww) (fun e w' h => by have h9 := RdE.to_f h; rw [HXV.out, HWW.out, HHH.out] at h9; exact h9)).mono ?_; rintro e w2 ⟨rfl, hs⟩; have hs2 := hs; obtain ⟨tq, hq⟩ := hs2; have rc2 := (hq.touch.cells.1 b _ hb3 nb).trans qc2; have rd2 := (hq.touch.cells.1 b _ hb3 nb).trans qd2; have hq9 := RdF.of E3.out B3.out NB.out hs; have B2 := Lib.hid hq9.1; have S2 := Lib.hid hq9.2; obtain ⟨z0, z1, z2, y0, y1, y2⟩ := three B2.out; have hlt2 := B2.out.lt; clear hs hq hq9))
 all_goals go_wp2_with fail
 all_goals exact bodyPost_ret (v := .tuple #[(⟨xk, xn, xs⟩ : Vl).v, .string ww]) (by simp [results, Tryz.results87, go_sem, Vl.zero, *]) rfl ⟨rfl, S2.out _ _ _⟩
set_option maxRecDepth 100000 in
set_option maxHeartbeats 4000000 in
theorem rcall_sub3 (g : Nat) (tv : Value) (H : Hp) (w : World) (h : RHeapIn w g tv H) (hL : LLaid w) (hlen : H.tabs.length ≤ 1000000000) (b o cap : Nat) (x0 x1 x2 : Vl) (a0 : ArgAt w b o x0) (a1 : ArgAt w b (o + 3) x1) (a2 : ArgAt w b (o + 6) x2) (nb : ¬ RFoot g tv b) (hs : x0.s.size ≤ 1048576) (hn : in64 x1.n) (hu : in64 x2.n) :
  Calls Tryz.prog 87 #[.pointer (some ⟨g, 0, none⟩), .string ⟨#[115, 117, 98]⟩, .slice (some ⟨b, o, none⟩) 3 cap] w (RdE w g tv (mkR H (ba (subL x0.s.data.toList x1.n x2.n)))) := by
 show Calls _ _ _ _ (RdF w g tv (mkR H (ba (subL x0.s.data.toList x1.n x2.n))).H (if (mkR H (ba (subL x0.s.data.toList x1.n x2.n))).w = sNone then (mkR H (ba (subL x0.s.data.toList x1.n x2.n))).v else Vl.zero) (mkR H (ba (subL x0.s.data.toList x1.n x2.n))).w)
 have HI0 := Lib.hid h
 have HL := Lib.hid hL
 have HB := Lib.hid (Blk.new w 26 #[.int .i64 0, .int .i64 0, .string ⟨#[]⟩])
 have HW := Lib.hid ((Ext.refl w).alloc (.cells #[.int .i64 0, .int .i64 0, .string ⟨#[]⟩] 26))
 have HI := Lib.hid (h.ext HW.out)
 have NB : Hid (¬ RFoot g tv w.heap.size) := Lib.hid (fun hf => Nat.lt_irrefl _ (h.low hf))
 have c2 := (a0.ext HW.out).s
 have d2 := (a1.ext HW.out).n
 have f2 := (a2.ext HW.out).n
 have hb := (a0.ext HW.out).lt
 have hbne : ¬ b = w.heap.size := by have := a0.lt; omega
 have HC := Lib.hid (fun W => rsub_any x0.s x1.n x2.n hn hu hs W)
 have hsl : (subL x0.s.data.toList x1.n x2.n).length ≤ 1048576 := Nat.le_trans (subL_len _ _ _) hs
 have HM := Lib.hid (fun (W : World) (hE : Ext w W) => (rmade_any g tv H (ba (subL x0.s.data.toList x1.n x2.n)) W (HI0.out.ext hE) (by rw [ba_size]; omega)).mono fun e w' a => MadeE.rd (HI0.out.ext hE) a)
 obtain ⟨xv, hxv⟩ : ∃ xv, (if (mkR H (ba (subL x0.s.data.toList x1.n x2.n))).w = sNone then (mkR H (ba (subL x0.s.data.toList x1.n x2.n))).v else Vl.zero) = xv := ⟨_, rfl⟩
 obtain ⟨ww, hww⟩ : ∃ ww, (mkR H (ba (subL x0.s.data.toList x1.n x2.n))).w = ww := ⟨_, rfl⟩
 obtain ⟨HH, hHH⟩ : ∃ HH, (mkR H (ba (subL x0.s.data.toList x1.n x2.n))).H = HH := ⟨_, rfl⟩
 rw [hxv, hww, hHH]
 have HXV := Lib.hid hxv
 have HWW := Lib.hid hww
 have HHH := Lib.hid hHH
 obtain ⟨xk, xn, xs⟩ := xv
 obtain ⟨k0, n0, s0⟩ := x0
 obtain ⟨k1, n1, s1⟩ := x1
 obtain ⟨k2, n2, s2⟩ := x2
 simp only at c2 d2 HC HM f2
 clear hxv hww hHH h a0 a1 hs hn hsl a2 hu
 go_enter Tryz.func87, Tryz.ntmps87
 go_wp2_with fail
 have hbw : b < (w.alloc (.cells #[.int .i64 0, .int .i64 0, .string ⟨#[]⟩] 26)).heap.size := hb
 have hbz : ¬ w.heap.size = b := fun e => hbne e.symm
 go_region_held3 (fun w' => w'.cell? ⟨b, o + 2, none⟩ = some (.string s0) ∧ w'.cell? ⟨b, o + 3 + 1, none⟩ = some (.int .i64 n1)) (go_keep)
  (first
   | (go_at_call 117; refine (HC.out _).mono ?_; rintro e w3 ⟨rfl, e3⟩; have E3 := Lib.hid (show Ext (w.alloc (.cells #[.int .i64 0, .int .i64 0, .string ⟨#[]⟩] 26)) w3 from (Ext.refl _).drew.trans e3); have qc2 := (E3.out.cells.1 _ _ hbw).trans c2; have qd2 := (E3.out.cells.1 _ _ hbw).trans d2; have B3 := Lib.hid (HB.out.ext E3.out); have hb3 : b < w3.heap.size := Nat.lt_of_lt_of_le hbw E3.out.le; have E3 := Lib.hid (HW.out.trans E3.out); clear e3)
   | (go_at_call 113; refine (Calls.mono (HM.out _ E3.out) (R' := RdF _ g tv HH ⟨xk, xn, xs⟩ ww) (fun e w' h => by have h9 := RdE.to_f h; rw [HXV.out, HWW.out, HHH.out] at h9; exact h9)).mono ?_; rintro e w2 ⟨rfl, hs⟩; have hs2 := hs; obtain ⟨tq, hq⟩ := hs2; have rc2 := (hq.touch.cells.1 b _ hb3 nb).trans qc2; have rd2 := (hq.touch.cells.1 b _ hb3 nb).trans qd2; have hq9 := RdF.of E3.out B3.out NB.out hs; have B2 := Lib.hid hq9.1; have S2 := Lib.hid hq9.2; obtain ⟨z0, z1, z2, y0, y1, y2⟩ := three B2.out; have hlt2 := B2.out.lt; clear hs hq hq9))
 all_goals go_wp2_with fail
 all_goals exact bodyPost_ret (v := .tuple #[(⟨xk, xn, xs⟩ : Vl).v, .string ww]) (by simp [results, Tryz.results87, go_sem, Vl.zero, *]) rfl ⟨rfl, S2.out _ _ _⟩
set_option maxRecDepth 100000 in
set_option maxHeartbeats 4000000 in
theorem rcall_type0 (g : Nat) (tv : Value) (H : Hp) (w : World) (h : RHeapIn w g tv H) (hL : LLaid w) (hlen : H.tabs.length ≤ 1000000000) (b o cap : Nat) (n0 : Int) (s0 : ByteArray) (a0 : ArgAt w b o ⟨0, n0, s0⟩) :
  Calls Tryz.prog 87 #[.pointer (some ⟨g, 0, none⟩), .string ⟨#[116, 121, 112, 101]⟩, .slice (some ⟨b, o, none⟩) 1 cap] w (RdE w g tv (mkR H ⟨#[110, 105, 108]⟩)) := by
 show Calls _ _ _ _ (RdF w g tv (mkR H ⟨#[110, 105, 108]⟩).H (if (mkR H ⟨#[110, 105, 108]⟩).w = sNone then (mkR H ⟨#[110, 105, 108]⟩).v else Vl.zero) (mkR H ⟨#[110, 105, 108]⟩).w)
 have HI0 := Lib.hid h
 have HL := Lib.hid hL
 have HB := Lib.hid (Blk.new w 26 #[.int .i64 0, .int .i64 0, .string ⟨#[]⟩])
 have HW := Lib.hid ((Ext.refl w).alloc (.cells #[.int .i64 0, .int .i64 0, .string ⟨#[]⟩] 26))
 have HI := Lib.hid (h.ext HW.out)
 have NB : Hid (¬ RFoot g tv w.heap.size) := Lib.hid (fun hf => Nat.lt_irrefl _ (h.low hf))
 have c0 := (a0.ext HW.out).k
 have c1 := (a0.ext HW.out).n
 have hb := (a0.ext HW.out).lt
 have HM := Lib.hid (fun (W : World) (hE : Ext w W) => (rmade_any g tv H ⟨#[110, 105, 108]⟩ W (HI0.out.ext hE) (by decide)).mono fun e w' a => MadeE.rd (HI0.out.ext hE) a)
 have HE3 := Lib.hid (HW.out.alloc (.cells #[.string ⟨#[110, 105, 108]⟩, .string ⟨#[98, 111, 111, 108, 101, 97, 110]⟩, .string ⟨#[110, 117, 109, 98, 101, 114]⟩, .string ⟨#[115, 116, 114, 105, 110, 103]⟩, .string ⟨#[116, 97, 98, 108, 101]⟩] 9))
 have HB3 := Lib.hid (HB.out.alloc (.cells #[.string ⟨#[110, 105, 108]⟩, .string ⟨#[98, 111, 111, 108, 101, 97, 110]⟩, .string ⟨#[110, 117, 109, 98, 101, 114]⟩, .string ⟨#[115, 116, 114, 105, 110, 103]⟩, .string ⟨#[116, 97, 98, 108, 101]⟩] 9))
 have e0 := a0.k
 have e1 := a0.n
 have hbl := a0.lt
 have hbl1 : b < w.heap.size + 1 := by omega
 simp only at c0 c1 e0 e1
 obtain ⟨xv, hxv⟩ : ∃ xv, (if (mkR H ⟨#[110, 105, 108]⟩).w = sNone then (mkR H ⟨#[110, 105, 108]⟩).v else Vl.zero) = xv := ⟨_, rfl⟩
 obtain ⟨ww, hww⟩ : ∃ ww, (mkR H ⟨#[110, 105, 108]⟩).w = ww := ⟨_, rfl⟩
 obtain ⟨HH, hHH⟩ : ∃ HH, (mkR H ⟨#[110, 105, 108]⟩).H = HH := ⟨_, rfl⟩
 rw [hxv, hww, hHH]
 have HXV := Lib.hid hxv
 have HWW := Lib.hid hww
 have HHH := Lib.hid hHH
 obtain ⟨xk, xn, xs⟩ := xv
 clear hxv hww hHH h a0
 go_enter Tryz.func87, Tryz.ntmps87
 go_wp2_with fail
 refine (Calls.mono (HM.out _ HE3.out) (R' := RdF _ g tv HH ⟨xk, xn, xs⟩ ww) (fun e w' h => by have h9 := RdE.to_f h; rw [HXV.out, HWW.out, HHH.out] at h9; exact h9)).mono ?_
 rintro e w2 ⟨rfl, hs⟩
 have hq9 := RdF.of HE3.out HB3.out NB.out hs
 have B2 := Lib.hid hq9.1
 have S2 := Lib.hid hq9.2
 clear hs hq9
 obtain ⟨z0, z1, z2, y0, y1, y2⟩ := three B2.out
 have hlt2 := B2.out.lt
 go_wp2_with fail
 exact bodyPost_ret (v := .tuple #[(⟨xk, xn, xs⟩ : Vl).v, .string ww]) (by simp [results, Tryz.results87, go_sem, Vl.zero, *]) rfl ⟨rfl, S2.out _ _ _⟩
set_option maxRecDepth 100000 in
set_option maxHeartbeats 4000000 in
theorem rcall_type1 (g : Nat) (tv : Value) (H : Hp) (w : World) (h : RHeapIn w g tv H) (hL : LLaid w) (hlen : H.tabs.length ≤ 1000000000) (b o cap : Nat) (n0 : Int) (s0 : ByteArray) (a0 : ArgAt w b o ⟨1, n0, s0⟩) :
  Calls Tryz.prog 87 #[.pointer (some ⟨g, 0, none⟩), .string ⟨#[116, 121, 112, 101]⟩, .slice (some ⟨b, o, none⟩) 1 cap] w (RdE w g tv (mkR H ⟨#[98, 111, 111, 108, 101, 97, 110]⟩)) := by
 show Calls _ _ _ _ (RdF w g tv (mkR H ⟨#[98, 111, 111, 108, 101, 97, 110]⟩).H (if (mkR H ⟨#[98, 111, 111, 108, 101, 97, 110]⟩).w = sNone then (mkR H ⟨#[98, 111, 111, 108, 101, 97, 110]⟩).v else Vl.zero) (mkR H ⟨#[98, 111, 111, 108, 101, 97, 110]⟩).w)
 have HI0 := Lib.hid h
 have HL := Lib.hid hL
 have HB := Lib.hid (Blk.new w 26 #[.int .i64 0, .int .i64 0, .string ⟨#[]⟩])
 have HW := Lib.hid ((Ext.refl w).alloc (.cells #[.int .i64 0, .int .i64 0, .string ⟨#[]⟩] 26))
 have HI := Lib.hid (h.ext HW.out)
 have NB : Hid (¬ RFoot g tv w.heap.size) := Lib.hid (fun hf => Nat.lt_irrefl _ (h.low hf))
 have c0 := (a0.ext HW.out).k
 have c1 := (a0.ext HW.out).n
 have hb := (a0.ext HW.out).lt
 have HM := Lib.hid (fun (W : World) (hE : Ext w W) => (rmade_any g tv H ⟨#[98, 111, 111, 108, 101, 97, 110]⟩ W (HI0.out.ext hE) (by decide)).mono fun e w' a => MadeE.rd (HI0.out.ext hE) a)
 have HE3 := Lib.hid (HW.out.alloc (.cells #[.string ⟨#[110, 105, 108]⟩, .string ⟨#[98, 111, 111, 108, 101, 97, 110]⟩, .string ⟨#[110, 117, 109, 98, 101, 114]⟩, .string ⟨#[115, 116, 114, 105, 110, 103]⟩, .string ⟨#[116, 97, 98, 108, 101]⟩] 9))
 have HB3 := Lib.hid (HB.out.alloc (.cells #[.string ⟨#[110, 105, 108]⟩, .string ⟨#[98, 111, 111, 108, 101, 97, 110]⟩, .string ⟨#[110, 117, 109, 98, 101, 114]⟩, .string ⟨#[115, 116, 114, 105, 110, 103]⟩, .string ⟨#[116, 97, 98, 108, 101]⟩] 9))
 have e0 := a0.k
 have e1 := a0.n
 have hbl := a0.lt
 have hbl1 : b < w.heap.size + 1 := by omega
 simp only at c0 c1 e0 e1
 obtain ⟨xv, hxv⟩ : ∃ xv, (if (mkR H ⟨#[98, 111, 111, 108, 101, 97, 110]⟩).w = sNone then (mkR H ⟨#[98, 111, 111, 108, 101, 97, 110]⟩).v else Vl.zero) = xv := ⟨_, rfl⟩
 obtain ⟨ww, hww⟩ : ∃ ww, (mkR H ⟨#[98, 111, 111, 108, 101, 97, 110]⟩).w = ww := ⟨_, rfl⟩
 obtain ⟨HH, hHH⟩ : ∃ HH, (mkR H ⟨#[98, 111, 111, 108, 101, 97, 110]⟩).H = HH := ⟨_, rfl⟩
 rw [hxv, hww, hHH]
 have HXV := Lib.hid hxv
 have HWW := Lib.hid hww
 have HHH := Lib.hid hHH
 obtain ⟨xk, xn, xs⟩ := xv
 clear hxv hww hHH h a0
 go_enter Tryz.func87, Tryz.ntmps87
 go_wp2_with fail
 refine (Calls.mono (HM.out _ HE3.out) (R' := RdF _ g tv HH ⟨xk, xn, xs⟩ ww) (fun e w' h => by have h9 := RdE.to_f h; rw [HXV.out, HWW.out, HHH.out] at h9; exact h9)).mono ?_
 rintro e w2 ⟨rfl, hs⟩
 have hq9 := RdF.of HE3.out HB3.out NB.out hs
 have B2 := Lib.hid hq9.1
 have S2 := Lib.hid hq9.2
 clear hs hq9
 obtain ⟨z0, z1, z2, y0, y1, y2⟩ := three B2.out
 have hlt2 := B2.out.lt
 go_wp2_with fail
 exact bodyPost_ret (v := .tuple #[(⟨xk, xn, xs⟩ : Vl).v, .string ww]) (by simp [results, Tryz.results87, go_sem, Vl.zero, *]) rfl ⟨rfl, S2.out _ _ _⟩
set_option maxRecDepth 100000 in
set_option maxHeartbeats 4000000 in
theorem rcall_type2 (g : Nat) (tv : Value) (H : Hp) (w : World) (h : RHeapIn w g tv H) (hL : LLaid w) (hlen : H.tabs.length ≤ 1000000000) (b o cap : Nat) (n0 : Int) (s0 : ByteArray) (a0 : ArgAt w b o ⟨2, n0, s0⟩) :
  Calls Tryz.prog 87 #[.pointer (some ⟨g, 0, none⟩), .string ⟨#[116, 121, 112, 101]⟩, .slice (some ⟨b, o, none⟩) 1 cap] w (RdE w g tv (mkR H ⟨#[110, 117, 109, 98, 101, 114]⟩)) := by
 show Calls _ _ _ _ (RdF w g tv (mkR H ⟨#[110, 117, 109, 98, 101, 114]⟩).H (if (mkR H ⟨#[110, 117, 109, 98, 101, 114]⟩).w = sNone then (mkR H ⟨#[110, 117, 109, 98, 101, 114]⟩).v else Vl.zero) (mkR H ⟨#[110, 117, 109, 98, 101, 114]⟩).w)
 have HI0 := Lib.hid h
 have HL := Lib.hid hL
 have HB := Lib.hid (Blk.new w 26 #[.int .i64 0, .int .i64 0, .string ⟨#[]⟩])
 have HW := Lib.hid ((Ext.refl w).alloc (.cells #[.int .i64 0, .int .i64 0, .string ⟨#[]⟩] 26))
 have HI := Lib.hid (h.ext HW.out)
 have NB : Hid (¬ RFoot g tv w.heap.size) := Lib.hid (fun hf => Nat.lt_irrefl _ (h.low hf))
 have c0 := (a0.ext HW.out).k
 have c1 := (a0.ext HW.out).n
 have hb := (a0.ext HW.out).lt
 have HM := Lib.hid (fun (W : World) (hE : Ext w W) => (rmade_any g tv H ⟨#[110, 117, 109, 98, 101, 114]⟩ W (HI0.out.ext hE) (by decide)).mono fun e w' a => MadeE.rd (HI0.out.ext hE) a)
 have HE3 := Lib.hid (HW.out.alloc (.cells #[.string ⟨#[110, 105, 108]⟩, .string ⟨#[98, 111, 111, 108, 101, 97, 110]⟩, .string ⟨#[110, 117, 109, 98, 101, 114]⟩, .string ⟨#[115, 116, 114, 105, 110, 103]⟩, .string ⟨#[116, 97, 98, 108, 101]⟩] 9))
 have HB3 := Lib.hid (HB.out.alloc (.cells #[.string ⟨#[110, 105, 108]⟩, .string ⟨#[98, 111, 111, 108, 101, 97, 110]⟩, .string ⟨#[110, 117, 109, 98, 101, 114]⟩, .string ⟨#[115, 116, 114, 105, 110, 103]⟩, .string ⟨#[116, 97, 98, 108, 101]⟩] 9))
 have e0 := a0.k
 have e1 := a0.n
 have hbl := a0.lt
 have hbl1 : b < w.heap.size + 1 := by omega
 simp only at c0 c1 e0 e1
 obtain ⟨xv, hxv⟩ : ∃ xv, (if (mkR H ⟨#[110, 117, 109, 98, 101, 114]⟩).w = sNone then (mkR H ⟨#[110, 117, 109, 98, 101, 114]⟩).v else Vl.zero) = xv := ⟨_, rfl⟩
 obtain ⟨ww, hww⟩ : ∃ ww, (mkR H ⟨#[110, 117, 109, 98, 101, 114]⟩).w = ww := ⟨_, rfl⟩
 obtain ⟨HH, hHH⟩ : ∃ HH, (mkR H ⟨#[110, 117, 109, 98, 101, 114]⟩).H = HH := ⟨_, rfl⟩
 rw [hxv, hww, hHH]
 have HXV := Lib.hid hxv
 have HWW := Lib.hid hww
 have HHH := Lib.hid hHH
 obtain ⟨xk, xn, xs⟩ := xv
 clear hxv hww hHH h a0
 go_enter Tryz.func87, Tryz.ntmps87
 go_wp2_with fail
 refine (Calls.mono (HM.out _ HE3.out) (R' := RdF _ g tv HH ⟨xk, xn, xs⟩ ww) (fun e w' h => by have h9 := RdE.to_f h; rw [HXV.out, HWW.out, HHH.out] at h9; exact h9)).mono ?_
 rintro e w2 ⟨rfl, hs⟩
 have hq9 := RdF.of HE3.out HB3.out NB.out hs
 have B2 := Lib.hid hq9.1
 have S2 := Lib.hid hq9.2
 clear hs hq9
 obtain ⟨z0, z1, z2, y0, y1, y2⟩ := three B2.out
 have hlt2 := B2.out.lt
 go_wp2_with fail
 exact bodyPost_ret (v := .tuple #[(⟨xk, xn, xs⟩ : Vl).v, .string ww]) (by simp [results, Tryz.results87, go_sem, Vl.zero, *]) rfl ⟨rfl, S2.out _ _ _⟩
set_option maxRecDepth 100000 in
set_option maxHeartbeats 4000000 in
theorem rcall_type3 (g : Nat) (tv : Value) (H : Hp) (w : World) (h : RHeapIn w g tv H) (hL : LLaid w) (hlen : H.tabs.length ≤ 1000000000) (b o cap : Nat) (n0 : Int) (s0 : ByteArray) (a0 : ArgAt w b o ⟨3, n0, s0⟩) :
  Calls Tryz.prog 87 #[.pointer (some ⟨g, 0, none⟩), .string ⟨#[116, 121, 112, 101]⟩, .slice (some ⟨b, o, none⟩) 1 cap] w (RdE w g tv (mkR H ⟨#[115, 116, 114, 105, 110, 103]⟩)) := by
 show Calls _ _ _ _ (RdF w g tv (mkR H ⟨#[115, 116, 114, 105, 110, 103]⟩).H (if (mkR H ⟨#[115, 116, 114, 105, 110, 103]⟩).w = sNone then (mkR H ⟨#[115, 116, 114, 105, 110, 103]⟩).v else Vl.zero) (mkR H ⟨#[115, 116, 114, 105, 110, 103]⟩).w)
 have HI0 := Lib.hid h
 have HL := Lib.hid hL
 have HB := Lib.hid (Blk.new w 26 #[.int .i64 0, .int .i64 0, .string ⟨#[]⟩])
 have HW := Lib.hid ((Ext.refl w).alloc (.cells #[.int .i64 0, .int .i64 0, .string ⟨#[]⟩] 26))
 have HI := Lib.hid (h.ext HW.out)
 have NB : Hid (¬ RFoot g tv w.heap.size) := Lib.hid (fun hf => Nat.lt_irrefl _ (h.low hf))
 have c0 := (a0.ext HW.out).k
 have c1 := (a0.ext HW.out).n
 have hb := (a0.ext HW.out).lt
 have HM := Lib.hid (fun (W : World) (hE : Ext w W) => (rmade_any g tv H ⟨#[115, 116, 114, 105, 110, 103]⟩ W (HI0.out.ext hE) (by decide)).mono fun e w' a => MadeE.rd (HI0.out.ext hE) a)
 have HE3 := Lib.hid (HW.out.alloc (.cells #[.string ⟨#[110, 105, 108]⟩, .string ⟨#[98, 111, 111, 108, 101, 97, 110]⟩, .string ⟨#[110, 117, 109, 98, 101, 114]⟩, .string ⟨#[115, 116, 114, 105, 110, 103]⟩, .string ⟨#[116, 97, 98, 108, 101]⟩] 9))
 have HB3 := Lib.hid (HB.out.alloc (.cells #[.string ⟨#[110, 105, 108]⟩, .string ⟨#[98, 111, 111, 108, 101, 97, 110]⟩, .string ⟨#[110, 117, 109, 98, 101, 114]⟩, .string ⟨#[115, 116, 114, 105, 110, 103]⟩, .string ⟨#[116, 97, 98, 108, 101]⟩] 9))
 have e0 := a0.k
 have e1 := a0.n
 have hbl := a0.lt
 have hbl1 : b < w.heap.size + 1 := by omega
 simp only at c0 c1 e0 e1
 obtain ⟨xv, hxv⟩ : ∃ xv, (if (mkR H ⟨#[115, 116, 114, 105, 110, 103]⟩).w = sNone then (mkR H ⟨#[115, 116, 114, 105, 110, 103]⟩).v else Vl.zero) = xv := ⟨_, rfl⟩
 obtain ⟨ww, hww⟩ : ∃ ww, (mkR H ⟨#[115, 116, 114, 105, 110, 103]⟩).w = ww := ⟨_, rfl⟩
 obtain ⟨HH, hHH⟩ : ∃ HH, (mkR H ⟨#[115, 116, 114, 105, 110, 103]⟩).H = HH := ⟨_, rfl⟩
 rw [hxv, hww, hHH]
 have HXV := Lib.hid hxv
 have HWW := Lib.hid hww
 have HHH := Lib.hid hHH
 obtain ⟨xk, xn, xs⟩ := xv
 clear hxv hww hHH h a0
 go_enter Tryz.func87, Tryz.ntmps87
 go_wp2_with fail
 refine (Calls.mono (HM.out _ HE3.out) (R' := RdF _ g tv HH ⟨xk, xn, xs⟩ ww) (fun e w' h => by have h9 := RdE.to_f h; rw [HXV.out, HWW.out, HHH.out] at h9; exact h9)).mono ?_
 rintro e w2 ⟨rfl, hs⟩
 have hq9 := RdF.of HE3.out HB3.out NB.out hs
 have B2 := Lib.hid hq9.1
 have S2 := Lib.hid hq9.2
 clear hs hq9
 obtain ⟨z0, z1, z2, y0, y1, y2⟩ := three B2.out
 have hlt2 := B2.out.lt
 go_wp2_with fail
 exact bodyPost_ret (v := .tuple #[(⟨xk, xn, xs⟩ : Vl).v, .string ww]) (by simp [results, Tryz.results87, go_sem, Vl.zero, *]) rfl ⟨rfl, S2.out _ _ _⟩
set_option maxRecDepth 100000 in
set_option maxHeartbeats 4000000 in
theorem rcall_type4 (g : Nat) (tv : Value) (H : Hp) (w : World) (h : RHeapIn w g tv H) (hL : LLaid w) (hlen : H.tabs.length ≤ 1000000000) (b o cap : Nat) (n0 : Int) (s0 : ByteArray) (a0 : ArgAt w b o ⟨4, n0, s0⟩) :
  Calls Tryz.prog 87 #[.pointer (some ⟨g, 0, none⟩), .string ⟨#[116, 121, 112, 101]⟩, .slice (some ⟨b, o, none⟩) 1 cap] w (RdE w g tv (mkR H ⟨#[116, 97, 98, 108, 101]⟩)) := by
 show Calls _ _ _ _ (RdF w g tv (mkR H ⟨#[116, 97, 98, 108, 101]⟩).H (if (mkR H ⟨#[116, 97, 98, 108, 101]⟩).w = sNone then (mkR H ⟨#[116, 97, 98, 108, 101]⟩).v else Vl.zero) (mkR H ⟨#[116, 97, 98, 108, 101]⟩).w)
 have HI0 := Lib.hid h
 have HL := Lib.hid hL
 have HB := Lib.hid (Blk.new w 26 #[.int .i64 0, .int .i64 0, .string ⟨#[]⟩])
 have HW := Lib.hid ((Ext.refl w).alloc (.cells #[.int .i64 0, .int .i64 0, .string ⟨#[]⟩] 26))
 have HI := Lib.hid (h.ext HW.out)
 have NB : Hid (¬ RFoot g tv w.heap.size) := Lib.hid (fun hf => Nat.lt_irrefl _ (h.low hf))
 have c0 := (a0.ext HW.out).k
 have c1 := (a0.ext HW.out).n
 have hb := (a0.ext HW.out).lt
 have HM := Lib.hid (fun (W : World) (hE : Ext w W) => (rmade_any g tv H ⟨#[116, 97, 98, 108, 101]⟩ W (HI0.out.ext hE) (by decide)).mono fun e w' a => MadeE.rd (HI0.out.ext hE) a)
 have HE3 := Lib.hid (HW.out.alloc (.cells #[.string ⟨#[110, 105, 108]⟩, .string ⟨#[98, 111, 111, 108, 101, 97, 110]⟩, .string ⟨#[110, 117, 109, 98, 101, 114]⟩, .string ⟨#[115, 116, 114, 105, 110, 103]⟩, .string ⟨#[116, 97, 98, 108, 101]⟩] 9))
 have HB3 := Lib.hid (HB.out.alloc (.cells #[.string ⟨#[110, 105, 108]⟩, .string ⟨#[98, 111, 111, 108, 101, 97, 110]⟩, .string ⟨#[110, 117, 109, 98, 101, 114]⟩, .string ⟨#[115, 116, 114, 105, 110, 103]⟩, .string ⟨#[116, 97, 98, 108, 101]⟩] 9))
 have e0 := a0.k
 have e1 := a0.n
 have hbl := a0.lt
 have hbl1 : b < w.heap.size + 1 := by omega
 simp only at c0 c1 e0 e1
 obtain ⟨xv, hxv⟩ : ∃ xv, (if (mkR H ⟨#[116, 97, 98, 108, 101]⟩).w = sNone then (mkR H ⟨#[116, 97, 98, 108, 101]⟩).v else Vl.zero) = xv := ⟨_, rfl⟩
 obtain ⟨ww, hww⟩ : ∃ ww, (mkR H ⟨#[116, 97, 98, 108, 101]⟩).w = ww := ⟨_, rfl⟩
 obtain ⟨HH, hHH⟩ : ∃ HH, (mkR H ⟨#[116, 97, 98, 108, 101]⟩).H = HH := ⟨_, rfl⟩
 rw [hxv, hww, hHH]
 have HXV := Lib.hid hxv
 have HWW := Lib.hid hww
 have HHH := Lib.hid hHH
 obtain ⟨xk, xn, xs⟩ := xv
 clear hxv hww hHH h a0
 go_enter Tryz.func87, Tryz.ntmps87
 go_wp2_with fail
 refine (Calls.mono (HM.out _ HE3.out) (R' := RdF _ g tv HH ⟨xk, xn, xs⟩ ww) (fun e w' h => by have h9 := RdE.to_f h; rw [HXV.out, HWW.out, HHH.out] at h9; exact h9)).mono ?_
 rintro e w2 ⟨rfl, hs⟩
 have hq9 := RdF.of HE3.out HB3.out NB.out hs
 have B2 := Lib.hid hq9.1
 have S2 := Lib.hid hq9.2
 clear hs hq9
 obtain ⟨z0, z1, z2, y0, y1, y2⟩ := three B2.out
 have hlt2 := B2.out.lt
 go_wp2_with fail
 exact bodyPost_ret (v := .tuple #[(⟨xk, xn, xs⟩ : Vl).v, .string ww]) (by simp [results, Tryz.results87, go_sem, Vl.zero, *]) rfl ⟨rfl, S2.out _ _ _⟩
end Go.Proofs.YtfagldjhibdfhaaGreatDoor
namespace Go.Proofs.YtfagldjhibdfhaaGreatDoor
open Go.RowKit
set_option linter.unusedVariables false
set_option linter.unusedSimpArgs false

theorem rcall_type (g : Nat) (tv : Value) (H : Hp) (w : World) (h : RHeapIn w g tv H) (hL : LLaid w) (hlen : H.tabs.length ≤ 1000000000) (b o cap : Nat) (x0 : Vl) (hk : 0 ≤ x0.k ∧ x0.k ≤ 4) (a0 : ArgAt w b o x0) :
  Calls Tryz.prog 87 #[.pointer (some ⟨g, 0, none⟩), .string ⟨#[116, 121, 112, 101]⟩, .slice (some ⟨b, o, none⟩) 1 cap] w (RdE w g tv (mkR H (kindName x0.k))) := by
 obtain ⟨k, n, s⟩ := x0
 simp only at hk
 rcases cases4 hk with rfl | rfl | rfl | rfl | rfl
 ·exact rcall_type0 g tv H w h hL hlen b o cap n s a0
 ·exact rcall_type1 g tv H w h hL hlen b o cap n s a0
 ·exact rcall_type2 g tv H w h hL hlen b o cap n s a0
 ·exact rcall_type3 g tv H w h hL hlen b o cap n s a0
 ·exact rcall_type4 g tv H w h hL hlen b o cap n s a0
theorem ck_sound {v : Vl} (h : v.ck = true) (hn : in64 v.n) : Sound v := by
 refine ⟨hn, ?_⟩
 have he : v.s.toList.isEmpty = true → v.s.size ≤ 1048576 := fun e => by
  rw [toList_nil (List.isEmpty_iff.1 e)]
  decide
 unfold Vl.ck checkB at h
 by_cases h0 : v.k = 0
 ·simp [h0] at h; exact he (by simp [h.2])
 ·by_cases h1 : v.k = 1
  ·simp [h1] at h; exact he (by simp [h.1])
  ·by_cases h2 : v.k = 2
   ·simp [h2] at h; exact he (by simp [h])
   ·by_cases h3 : v.k = 3
    ·simp [h3] at h; exact h.2
    ·by_cases h4 : v.k = 4
     ·simp [h4] at h; exact he (by simp [h.1])
     ·simp [h0, h1, h2, h3, h4] at h
theorem ask_sound {H : Hp} {f : Nat} {l : List Vl} (hw : askW H f l = sNone) (hn : ∀ x ∈ l, in64 x.n) : ∀ x ∈ l, Sound x := by
 obtain ⟨hk, hall⟩ := ask_args hw
 intro x hx
 obtain ⟨i, hi⟩ := List.getElem?_of_mem hx
 have hil := (List.getElem?_eq_some_iff.1 hi).1
 have hik : i < (kindsP f l.length).length := by omega
 exact ck_sound (hall i _ x (List.getElem?_eq_getElem hik) hi).1 (hn x hx)
theorem rdo_call (g : Nat) (tv : Value) (H : Hp) (w : World) (h : RHeapIn w g tv H) (hL : LLaid w) (hlen : H.tabs.length ≤ 1000000000) (f : Nat) (hf : f < 13) (q : Option Addr) (l : List Vl) (cap : Nat) (ha : ArgsAt w q l)
  (hs : ∀ x ∈ l, Sound x) (hq : ∀ a, q = some a → l ≠ [] → ¬ RFoot g tv a.block) (hw : askW H f l = sNone) :
  Calls Tryz.prog 87 #[.pointer (some ⟨g, 0, none⟩), .string (libNames.getD f sNone), .slice q l.length cap] w (RdE w g tv (doR H f l)) := by
 obtain ⟨hk, hall⟩ := ask_args hw
 have h64 : H.tabs.length ≤ 9223372036854775807 := by omega
 have hcase : f = 0 ∨ f = 1 ∨ f = 2 ∨ f = 3 ∨ f = 4 ∨ f = 5 ∨ f = 6 ∨ f = 7 ∨ f = 8 ∨ f = 9 ∨ f = 10 ∨ f = 11 ∨ f = 12 := by omega
 rcases hcase with rfl | rfl | rfl | rfl | rfl | rfl | rfl | rfl | rfl | rfl | rfl | rfl | rfl
 case inr.inl => exact rcall_char g tv H w h hL hlen q cap l ha fun x hx => (hs x hx).num
 case inl =>
  obtain ⟨x0, x1, rfl⟩ := two_of (l := l) (by simpa [kindsP] using hk.symm)
  obtain ⟨b, o, rfl, a0⟩ := ha.at_ 0 x0 rfl
  have s0 := hs x0 (by simp)
  obtain ⟨b', o', hb', a1⟩ := ha.at_ 1 x1 rfl
  cases hb'
  have s1 := hs x1 (by simp)
  simp only [Nat.zero_mul, Nat.add_zero, Nat.one_mul, Nat.reduceMul] at a0 a1
  have nf : ¬ RFoot g tv b := hq _ rfl (by simp)
  exact rcall_byte g tv H w h hL hlen b o cap x0 x1 a0 a1 s0.txt s1.num
 case inr.inr.inl =>
  obtain ⟨x0, x1, rfl⟩ := two_of (l := l) (by simpa [kindsP] using hk.symm)
  obtain ⟨b, o, rfl, a0⟩ := ha.at_ 0 x0 rfl
  have s0 := hs x0 (by simp)
  obtain ⟨b', o', hb', a1⟩ := ha.at_ 1 x1 rfl
  cases hb'
  have s1 := hs x1 (by simp)
  simp only [Nat.zero_mul, Nat.add_zero, Nat.one_mul, Nat.reduceMul] at a0 a1
  have nf : ¬ RFoot g tv b := hq _ rfl (by simp)
  exact rcall_concat g tv H w h hL hlen b o cap x0 x1 a0 a1 nf ((hall 0 98 x0 rfl rfl).2 rfl) s1.txt
 case inr.inr.inr.inl =>
  obtain ⟨x0, x1, rfl⟩ := two_of (l := l) (by simpa [kindsP] using hk.symm)
  obtain ⟨b, o, rfl, a0⟩ := ha.at_ 0 x0 rfl
  have s0 := hs x0 (by simp)
  obtain ⟨b', o', hb', a1⟩ := ha.at_ 1 x1 rfl
  cases hb'
  have s1 := hs x1 (by simp)
  simp only [Nat.zero_mul, Nat.add_zero, Nat.one_mul, Nat.reduceMul] at a0 a1
  have nf : ¬ RFoot g tv b := hq _ rfl (by simp)
  exact rcall_find g tv H w h hL hlen b o cap x0 x1 a0 a1 s0.txt s1.txt
 case inr.inr.inr.inr.inl =>
  rcases Decidable.em (l.length = 2) with hn | hn
  ·obtain ⟨x0, x1, rfl⟩ := two_of hn
   obtain ⟨b, o, rfl, a0⟩ := ha.at_ 0 x0 rfl
   have s0 := hs x0 (by simp)
   obtain ⟨b', o', hb', a1⟩ := ha.at_ 1 x1 rfl
   cases hb'
   have s1 := hs x1 (by simp)
   simp only [Nat.zero_mul, Nat.add_zero, Nat.one_mul, Nat.reduceMul] at a0 a1
   have nf : ¬ RFoot g tv b := hq _ rfl (by simp)
   exact rcall_insert2 g tv H w h hL hlen b o cap x0 x1 ((hall 0 98 x0 rfl rfl).2 rfl) s1.num a0 a1 nf
  ·have hn2 : l.length = 3 := by
    unfold kindsP at hk
    simp only [if_neg hn, List.length_cons, List.length_nil] at hk
    omega
   obtain ⟨x0, x1, x2, rfl⟩ := three_of hn2
   obtain ⟨b, o, rfl, a0⟩ := ha.at_ 0 x0 rfl
   have s0 := hs x0 (by simp)
   obtain ⟨b', o', hb', a1⟩ := ha.at_ 1 x1 rfl
   cases hb'
   have s1 := hs x1 (by simp)
   obtain ⟨b', o', hb', a2⟩ := ha.at_ 2 x2 rfl
   cases hb'
   have s2 := hs x2 (by simp)
   simp only [Nat.zero_mul, Nat.add_zero, Nat.one_mul, Nat.reduceMul] at a0 a1 a2
   have nf : ¬ RFoot g tv b := hq _ rfl (by simp)
   exact rcall_insert3 g tv H w h hL hlen b o cap x0 x1 x2 ((hall 0 98 x0 rfl rfl).2 rfl) s2.num a0 a1 s1.num a2 nf
 case inr.inr.inr.inr.inr.inl =>
  obtain ⟨x0, rfl⟩ := one_of (l := l) (by simpa [kindsP] using hk.symm)
  obtain ⟨b, o, rfl, a0⟩ := ha.at_ 0 x0 rfl
  have s0 := hs x0 (by simp)
  simp only [Nat.zero_mul, Nat.add_zero, Nat.one_mul, Nat.reduceMul] at a0
  have nf : ¬ RFoot g tv b := hq _ rfl (by simp)
  exact rcall_keys g tv H w h hL hlen b o cap x0 ((hall 0 98 x0 rfl rfl).2 rfl) a0
 case inr.inr.inr.inr.inr.inr.inl =>
  obtain ⟨x0, rfl⟩ := one_of (l := l) (by simpa [kindsP] using hk.symm)
  obtain ⟨b, o, rfl, a0⟩ := ha.at_ 0 x0 rfl
  have s0 := hs x0 (by simp)
  simp only [Nat.zero_mul, Nat.add_zero, Nat.one_mul, Nat.reduceMul] at a0
  have nf : ¬ RFoot g tv b := hq _ rfl (by simp)
  exact rcall_len g tv H w h hL hlen b o cap x0 a0
 case inr.inr.inr.inr.inr.inr.inr.inl =>
  rcases Decidable.em (l.length = 1) with hn | hn
  ·obtain ⟨x0, rfl⟩ := one_of hn
   obtain ⟨b, o, rfl, a0⟩ := ha.at_ 0 x0 rfl
   have s0 := hs x0 (by simp)
   simp only [Nat.zero_mul, Nat.add_zero, Nat.one_mul, Nat.reduceMul] at a0
   have nf : ¬ RFoot g tv b := hq _ rfl (by simp)
   exact rcall_remove1 g tv H w h hL hlen b o cap x0 ((hall 0 98 x0 rfl rfl).2 rfl) a0 nf
  ·have hn2 : l.length = 2 := by
    unfold kindsP at hk
    simp only [if_neg hn, List.length_cons, List.length_nil] at hk
    omega
   obtain ⟨x0, x1, rfl⟩ := two_of hn2
   obtain ⟨b, o, rfl, a0⟩ := ha.at_ 0 x0 rfl
   have s0 := hs x0 (by simp)
   obtain ⟨b', o', hb', a1⟩ := ha.at_ 1 x1 rfl
   cases hb'
   have s1 := hs x1 (by simp)
   simp only [Nat.zero_mul, Nat.add_zero, Nat.one_mul, Nat.reduceMul] at a0 a1
   have nf : ¬ RFoot g tv b := hq _ rfl (by simp)
   exact rcall_remove2 g tv H w h hL hlen b o cap x0 x1 ((hall 0 98 x0 rfl rfl).2 rfl) a0 a1 s1.num nf
 case inr.inr.inr.inr.inr.inr.inr.inr.inl =>
  obtain ⟨x0, x1, rfl⟩ := two_of (l := l) (by simpa [kindsP] using hk.symm)
  obtain ⟨b, o, rfl, a0⟩ := ha.at_ 0 x0 rfl
  have s0 := hs x0 (by simp)
  obtain ⟨b', o', hb', a1⟩ := ha.at_ 1 x1 rfl
  cases hb'
  have s1 := hs x1 (by simp)
  simp only [Nat.zero_mul, Nat.add_zero, Nat.one_mul, Nat.reduceMul] at a0 a1
  have nf : ¬ RFoot g tv b := hq _ rfl (by simp)
  exact rcall_rep g tv H w h hL hlen b o cap x0 x1 a0 a1 nf s0.txt s1.num
 case inr.inr.inr.inr.inr.inr.inr.inr.inr.inl =>
  rcases Decidable.em (l.length = 2) with hn | hn
  ·obtain ⟨x0, x1, rfl⟩ := two_of hn
   obtain ⟨b, o, rfl, a0⟩ := ha.at_ 0 x0 rfl
   have s0 := hs x0 (by simp)
   obtain ⟨b', o', hb', a1⟩ := ha.at_ 1 x1 rfl
   cases hb'
   have s1 := hs x1 (by simp)
   simp only [Nat.zero_mul, Nat.add_zero, Nat.one_mul, Nat.reduceMul] at a0 a1
   have nf : ¬ RFoot g tv b := hq _ rfl (by simp)
   exact rcall_sub2 g tv H w h hL hlen b o cap x0 x1 a0 a1 nf s0.txt s1.num
  ·have hn2 : l.length = 3 := by
    unfold kindsP at hk
    simp only [if_neg hn, List.length_cons, List.length_nil] at hk
    omega
   obtain ⟨x0, x1, x2, rfl⟩ := three_of hn2
   obtain ⟨b, o, rfl, a0⟩ := ha.at_ 0 x0 rfl
   have s0 := hs x0 (by simp)
   obtain ⟨b', o', hb', a1⟩ := ha.at_ 1 x1 rfl
   cases hb'
   have s1 := hs x1 (by simp)
   obtain ⟨b', o', hb', a2⟩ := ha.at_ 2 x2 rfl
   cases hb'
   have s2 := hs x2 (by simp)
   simp only [Nat.zero_mul, Nat.add_zero, Nat.one_mul, Nat.reduceMul] at a0 a1 a2
   have nf : ¬ RFoot g tv b := hq _ rfl (by simp)
   exact rcall_sub3 g tv H w h hL hlen b o cap x0 x1 x2 a0 a1 a2 nf s0.txt s1.num s2.num
 case inr.inr.inr.inr.inr.inr.inr.inr.inr.inr.inl =>
  obtain ⟨x0, rfl⟩ := one_of (l := l) (by simpa [kindsP] using hk.symm)
  obtain ⟨b, o, rfl, a0⟩ := ha.at_ 0 x0 rfl
  have s0 := hs x0 (by simp)
  simp only [Nat.zero_mul, Nat.add_zero, Nat.one_mul, Nat.reduceMul] at a0
  have nf : ¬ RFoot g tv b := hq _ rfl (by simp)
  exact rcall_tonumber g tv H w h hL hlen b o cap x0 a0 s0.txt
 case inr.inr.inr.inr.inr.inr.inr.inr.inr.inr.inr.inl =>
  obtain ⟨x0, rfl⟩ := one_of (l := l) (by simpa [kindsP] using hk.symm)
  obtain ⟨b, o, rfl, a0⟩ := ha.at_ 0 x0 rfl
  have s0 := hs x0 (by simp)
  simp only [Nat.zero_mul, Nat.add_zero, Nat.one_mul, Nat.reduceMul] at a0
  have nf : ¬ RFoot g tv b := hq _ rfl (by simp)
  exact rcall_tostring g tv H w h hL hlen b o cap x0 a0 s0.txt (ck_kind (hall 0 118 x0 rfl rfl).1) s0.num
 case inr.inr.inr.inr.inr.inr.inr.inr.inr.inr.inr.inr =>
  obtain ⟨x0, rfl⟩ := one_of (l := l) (by simpa [kindsP] using hk.symm)
  obtain ⟨b, o, rfl, a0⟩ := ha.at_ 0 x0 rfl
  have s0 := hs x0 (by simp)
  simp only [Nat.zero_mul, Nat.add_zero, Nat.one_mul, Nat.reduceMul] at a0
  have nf : ¬ RFoot g tv b := hq _ rfl (by simp)
  exact rcall_type g tv H w h hL hlen b o cap x0 (ck_kind (hall 0 118 x0 rfl rfl).1) a0
theorem libIdx_name {s : ByteArray} {f : Nat} (h : libIdx s = some f) : s = libNames.getD f sNone := by
 obtain ⟨h1, h2, _⟩ := List.findIdx?_eq_some_iff_getElem.1 h
 rw [List.getD_eq_getElem?_getD, List.getElem?_eq_getElem h1, Option.getD_some]
 have := of_decide_eq_true h2
 exact this.symm
theorem kindsB_len (f m : Nat) : (kindsB f m).size ≤ m + 3 := by
 show (kindsP f m).toArray.size ≤ m + 3
 rw [List.size_toArray]
 unfold kindsP
 split <;> (try split) <;> simp <;> omega
theorem RStep.ext {w w1 w2 : World} {g : Nat} {tv : Value} {H : Hp} (h : RStep w g tv w1 H) (he : Ext w1 w2) : RStep w g tv w2 H := let ⟨tv', hs⟩ := h; ⟨tv', hs.ext he⟩
def RCallE (w : World) (g : Nat) (tv : Value) (H : Hp) (name : ByteArray) (l : List Vl) (e : Ending) (w' : World) : Prop :=
 e = .returned (.tuple #[(callV H name l).v, .string (callW H name l), .bool (callB name)]) ∧ RStep w g tv w' (callH H name l)
set_option maxRecDepth 100000 in
set_option maxHeartbeats 4000000 in
theorem rCall_none (w : World) (g : Nat) (tv : Value) (H : Hp) (h : RHeapIn w g tv H) (name : ByteArray) (q : Option Addr) (l : List Vl) (cap : Nat) (hi : libIdx name = none) :
  Calls Tryz.prog 50 #[.pointer (some ⟨g, 0, none⟩), .string name, .slice q l.length cap] w (RCallE w g tv H name l) := by
 have HI0 := Lib.hid h
 have HB := Lib.hid (Blk.new w 26 #[.int .i64 0, .int .i64 0, .string ⟨#[]⟩])
 have HW := Lib.hid ((Ext.refl w).alloc (.cells #[.int .i64 0, .int .i64 0, .string ⟨#[]⟩] 26))
 have HV : Hid (callV H name l = Vl.zero ∧ callW H name l = sNone ∧ callB name = false ∧ callH H name l = H) := Lib.hid (by
  have hr : callR H name l = none := by unfold callR; rw [hi]; rfl
  refine ⟨by unfold callV; rw [hr], by unfold callW; rw [hr], by unfold callB; rw [hi]; rfl, by unfold callH; rw [hr]⟩)
 have HC := Lib.hid (fun W => rhas_any name W)
 rw [HV.out.2.2.1] at HC
 clear hi h
 go_enter Tryz.func50, Tryz.ntmps50
 go_wp2_with fail
 refine (HC.out _).mono ?_
 rintro e w2 ⟨rfl, e2⟩
 have B2 := Lib.hid (HB.out.ext e2)
 have E2 := Lib.hid (HW.out.trans e2)
 clear e2
 obtain ⟨z0, z1, z2, y0, y1, y2⟩ := three B2.out
 have hlt2 := B2.out.lt
 go_wp2_with fail
 exact bodyPost_ret (v := .tuple #[Vl.zero.v, .string sNone, .bool false]) (by simp [results, Tryz.results50, go_sem, Vl.zero, sNone, *]) rfl ⟨by rw [HV.out.1, HV.out.2.1, HV.out.2.2.1], by rw [HV.out.2.2.2]; exact RdF.ext_ HI0.out E2.out _ _ _⟩
set_option maxRecDepth 100000 in
set_option maxHeartbeats 4000000 in
theorem rCall_some (w : World) (g : Nat) (tv : Value) (H : Hp) (h : RHeapIn w g tv H) (hL : LLaid w) (hlen : H.tabs.length ≤ 1000000000) (f : Nat) (hf : f < 13) (q : Option Addr) (l : List Vl) (cap : Nat) (ha : ArgsAt w q l)
  (hn : ∀ x ∈ l, in64 x.n) (hq : ∀ a, q = some a → l ≠ [] → ¬ RFoot g tv a.block) (hi : libIdx (libNames.getD f sNone) = some f) :
  Calls Tryz.prog 50 #[.pointer (some ⟨g, 0, none⟩), .string (libNames.getD f sNone), .slice q l.length cap] w (RCallE w g tv H (libNames.getD f sNone) l) := by
 have HI0 := Lib.hid h
 have HB := Lib.hid (Blk.new w 26 #[.int .i64 0, .int .i64 0, .string ⟨#[]⟩])
 have HW := Lib.hid ((Ext.refl w).alloc (.cells #[.int .i64 0, .int .i64 0, .string ⟨#[]⟩] 26))
 have NB : Hid (¬ RFoot g tv w.heap.size) := Lib.hid (fun hf => Nat.lt_irrefl _ (h.low hf))
 have hb : callB (libNames.getD f sNone) = true := by unfold callB; rw [hi]; rfl
 have hR : callR H (libNames.getD f sNone) l = some (if askW H f l = sNone then doR H f l else .no H (askW H f l)) := by unfold callR; rw [hi]; rfl
 have HC := Lib.hid (fun W => rhas_any (libNames.getD f sNone) W)
 rw [hb] at HC
 have HK := Lib.hid (fun W => rkinds_any f l.length hf ha.len W)
 have HA := Lib.hid (fun (W : World) (hE : Ext w W) => rasked_any g tv H W (h.ext hE) (by omega) (kindsB f l.length) q l cap (ha.ext hE) (by have := kindsB_len f l.length; have := ha.len; omega))
 have hlenI : (l.length : Int) ≤ 1048576 := by have := ha.len; omega
 rw [← askW_B] at HA
 have HD : Hid (askW H f l = sNone → ∀ (W : World), Ext w W → Calls Tryz.prog 87 #[.pointer (some ⟨g, 0, none⟩), .string (libNames.getD f sNone), .slice q l.length cap] W (RdE W g tv (doR H f l))) := Lib.hid (fun hw W hE => rdo_call g tv H W (h.ext hE) (hL.ext hE) hlen f hf q l cap (ha.ext hE) (ask_sound hw hn) hq hw)
 generalize libNames.getD f sNone = name at *
 obtain ⟨aw, haw⟩ : ∃ aw, askW H f l = aw := ⟨_, rfl⟩
 rw [haw] at HA HD hR
 have HV : Hid (callB name = true) := Lib.hid hb
 have HRR := Lib.hid hR
 have hq0 : sNone.toList = [] := sNone_list
 clear hb hR haw hi h hL ha hn hq
 go_enter Tryz.func50, Tryz.ntmps50
 go_wp2_with fail
 refine (HC.out _).mono ?_
 rintro e w2 ⟨rfl, e2⟩
 have B2 := Lib.hid (HB.out.ext e2)
 have E2 := Lib.hid (HW.out.trans e2)
 clear e2
 go_wp2_with fail
 refine (HK.out _).mono ?_
 rintro e w3 ⟨rfl, rfl⟩
 go_wp2_with fail
 refine (HA.out _ E2.out).mono ?_
 rintro e w3 ⟨rfl, e3⟩
 have B3 := Lib.hid (B2.out.ext e3)
 have E3 := Lib.hid (E2.out.trans e3)
 clear e3 E2 B2
 by_cases hs : aw = sNone
 ·subst hs
  have hRR := HRR.out
  rw [if_pos rfl] at hRR
  have HV2 : Hid (callV H name l = (if (doR H f l).w = sNone then (doR H f l).v else Vl.zero) ∧ callW H name l = (doR H f l).w ∧ callH H name l = (doR H f l).H) := Lib.hid ⟨by unfold callV; rw [hRR], by unfold callW; rw [hRR], by unfold callH; rw [hRR]⟩
  obtain ⟨xv, hxv⟩ : ∃ xv, (if (doR H f l).w = sNone then (doR H f l).v else Vl.zero) = xv := ⟨_, rfl⟩
  obtain ⟨ww, hww⟩ : ∃ ww, (doR H f l).w = ww := ⟨_, rfl⟩
  obtain ⟨HH, hHH⟩ : ∃ HH, (doR H f l).H = HH := ⟨_, rfl⟩
  have HD2 := Lib.hid (HD.out rfl _ E3.out)
  have HV3 : Hid (callV H name l = xv ∧ callW H name l = ww ∧ callH H name l = HH) := Lib.hid ⟨HV2.out.1.trans hxv, HV2.out.2.1.trans hww, HV2.out.2.2.trans hHH⟩
  have HX := Lib.hid (And.intro hxv (And.intro hww hHH))
  obtain ⟨xk, xn, xs⟩ := xv
  clear hxv hww hHH hRR HV2 HD
  go_wp2_with fail
  refine (Calls.mono HD2.out (R' := RdF _ g tv HH ⟨xk, xn, xs⟩ ww) (fun e w' h => by have h9 := RdE.to_f h; rw [HX.out.1, HX.out.2.1, HX.out.2.2] at h9; exact h9)).mono ?_
  rintro e w5 ⟨rfl, hs⟩
  have hq9 := RdF.of E3.out B3.out NB.out hs
  have B5 := Lib.hid hq9.1
  have S5 := Lib.hid hq9.2
  clear hs hq9 HD2
  obtain ⟨z0, z1, z2, y0, y1, y2⟩ := three B5.out
  have hlt2 := B5.out.lt
  go_wp2_with fail
  exact bodyPost_ret (v := .tuple #[(⟨xk, xn, xs⟩ : Vl).v, .string ww, .bool true]) (by simp [results, Tryz.results50, go_sem, Vl.zero, *]) rfl ⟨by rw [HV3.out.1, HV3.out.2.1, HV.out], by rw [HV3.out.2.2]; exact (S5.out _ _ _).ext ((Ext.refl _).alloc _)⟩
 ·have hRR := HRR.out
  rw [if_neg hs] at hRR
  have HV2 : Hid (callV H name l = Vl.zero ∧ callW H name l = aw ∧ callH H name l = H) := Lib.hid ⟨by unfold callV; rw [hRR]; exact if_neg (show ¬ (Rs.no H aw).w = sNone from hs), by unfold callW; rw [hRR]; rfl, by unfold callH; rw [hRR]; rfl⟩
  have hst1 := str_ne_empty hs
  obtain ⟨z0, z1, z2, y0, y1, y2⟩ := three B3.out
  have hlt2 := B3.out.lt
  clear hRR hs
  go_wp2_with fail
  exact bodyPost_ret (v := .tuple #[Vl.zero.v, .string aw, .bool true]) (by simp [results, Tryz.results50, go_sem, Vl.zero, *]) rfl ⟨by rw [HV2.out.1, HV2.out.2.1, HV.out], by rw [HV2.out.2.2]; exact RdF.ext_ HI0.out E3.out _ _ _⟩
theorem rCall_any (w : World) (g : Nat) (tv : Value) (H : Hp) (h : RHeapIn w g tv H) (hL : LLaid w) (hlen : H.tabs.length ≤ 1000000000) (name : ByteArray) (q : Option Addr) (l : List Vl) (cap : Nat) (ha : ArgsAt w q l)
  (hn : ∀ x ∈ l, in64 x.n) (hq : ∀ a, q = some a → l ≠ [] → ¬ RFoot g tv a.block) :
  Calls Tryz.prog 50 #[.pointer (some ⟨g, 0, none⟩), .string name, .slice q l.length cap] w (RCallE w g tv H name l) := by
 cases hi : libIdx name with
 | none => exact rCall_none w g tv H h name q l cap hi
 | some f =>
  have he := libIdx_name hi
  subst he
  exact rCall_some w g tv H h hL hlen f (libIdx_lt hi) q l cap ha hn hq hi
end Go.Proofs.YtfagldjhibdfhaaGreatDoor
