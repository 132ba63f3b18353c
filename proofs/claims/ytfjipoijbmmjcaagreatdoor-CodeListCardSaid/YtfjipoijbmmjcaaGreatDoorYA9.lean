/- Rows of instructions, numbers, texts: slices.Equal. Are two programs the same: the code's Same. Are two programs the same: the reference's Same. Is a program large? -/
import Derived.Test.YtfjipoijbmmjcaaGreatDoorYA3
import Derived.Deep.LoopGhost
import Derived.Lib.Strings
import Derived.Laws.StructEq
import Derived.Test.YtfjipoijbmmjcaaGreatDoorYA1
import Derived.Test.YtfjipoijbmmjcaaGreatDoorYA4
import Derived.Deep.RegionHeld3
import Derived.Deep.DrawnRows
import Derived.Deep.DeepCutAuto
namespace Go.Proofs.YtfjipoijbmmjcaaGreatDoor
open Go.RowKit
set_option linter.unusedVariables false
set_option linter.unusedSimpArgs false

def NumsAt' (w : World) (v : Value) (l : List Int) : Prop :=
 ∃ (q : Option Addr) (c : Nat), v = .slice q l.length c ∧ (0 < l.length → ∃ b o, q = some ⟨b, o, none⟩ ∧ ∀ i (h : i < l.length), w.cell? ⟨b, o + i, none⟩ = some (.int .i64 l[i]))
theorem take_eq_succ {α : Type} {l m : List α} {k : Nat} (h : l.take k = m.take k) (hl : k < l.length) (hm : k < m.length) (e : l[k] = m[k]) : l.take (k + 1) = m.take (k + 1) := by
 rw [List.take_succ_eq_append_getElem hl, List.take_succ_eq_append_getElem hm, h, e]
theorem ne_of_at {α : Type} {l m : List α} (k : Nat) (hl : k < l.length) (hm : k < m.length) (e : l[k] ≠ m[k]) : l ≠ m := by
 rintro rfl; exact e rfl
theorem eq_of_take {α : Type} {l m : List α} {k : Nat} (h : l.take k = m.take k) (hl : l.length = k) (hm : m.length = k) : l = m := by
 rwa [List.take_of_length_le (by omega), List.take_of_length_le (by omega)] at h
theorem ba_eq {x y : ByteArray} (h : x.toList = y.toList) : x = y := by
 rw [Lib.toList_data, Lib.toList_data] at h
 exact ByteArray.ext (Array.ext' h)
theorem ins_guard (a b : Operand) (xs ys : Array Value) (w : World) : (eqGuard .neq 42 a b (.agg xs) (.agg ys)).run Tryz.prog w = .ok () w :=
 run_eqGuard_agg w _ _ _ _ _ _ (by kernel_rfl)
theorem ins_eql (x y : Ins) (w : World) :
  (Op.equalIn 10000 42 (.agg #[.int .i64 x.op, .int .i64 x.a, .int .i64 x.b, .int .i64 x.c]) (.agg #[.int .i64 y.op, .int .i64 y.a, .int .i64 y.b, .int .i64 y.c])).run Tryz.prog w = .ok (x == y) w := by
 have u3 := Tryz.underlying3
 have a3 := Tryz.isAgg3
 have z3 := Tryz.sizeOf3
 have u4 := Tryz.underlying40
 have a4 := Tryz.isAgg40
 have z4 := Tryz.sizeOf40
 rw [show (10000 : Nat) = 9999 + 1 from rfl, run_equalIn_struct (P := Tryz.prog) w 9999 42 _ _ (by kernel_rfl) (by kernel_rfl)]
 simp only [Program.fieldsOf, Tryz.underlying42]
 go_simp
 obtain ⟨x0, x1, x2, x3⟩ := x
 obtain ⟨y0, y1, y2, y3⟩ := y
 have e : ((⟨x0, x1, x2, x3⟩ : Ins) == ⟨y0, y1, y2, y3⟩) = (x0 == y0 && (x1 == y1 && (x2 == y2 && x3 == y3))) := by
  rw [Bool.eq_iff_iff]; simp
 rw [e]
 by_cases h1 : x0 = y0 <;> by_cases h2 : x1 = y1 <;> by_cases h3 : x2 = y2 <;> by_cases h4 : x3 = y3 <;> simp [h1, h2, h3, h4]
theorem ins_neq (x y : Ins) (w : World) :
  (binOp .neq 42 (.agg #[.int .i64 x.op, .int .i64 x.a, .int .i64 x.b, .int .i64 x.c]) (.agg #[.int .i64 y.op, .int .i64 y.a, .int .i64 y.b, .int .i64 y.c])).run Tryz.prog w = .ok (.bool (x != y)) w := by
 rw [run_neq_struct, ins_eql]
 rfl
end Go.Proofs.YtfjipoijbmmjcaaGreatDoor
namespace Go.Proofs.YtfjipoijbmmjcaaGreatDoor
open Go.RowKit
set_option linter.unusedVariables false
set_option linter.unusedSimpArgs false

deriving instance DecidableEq for Pr
def PrL (f : Pr) : Prop := f.cd.length ≤ 9223372036854775807
theorem pr_eq (f g : Pr) : (f.pa == g.pa && (f.rg == g.rg && decide (f.cd = g.cd))) = decide (f = g) := by
 obtain ⟨a, b, c⟩ := f
 obtain ⟨a', b', c'⟩ := g
 rw [Bool.eq_iff_iff]
 simp
theorem pr_at {w : World} {b o : Nat} {l : List Pr} (hx : ∀ i (h : i < l.length), w.cell? ⟨b, o + i * 3, none⟩ = some (.int .i64 l[i].pa) ∧ w.cell? ⟨b, o + i * 3 + 1, none⟩ = some (.int .i64 l[i].rg) ∧ ∃ cv, w.cell? ⟨b, o + i * 3 + 2, none⟩ = some cv ∧ CodeAt w cv l[i].cd)
  (k : Nat) (h : k < l.length) : ∃ (q : Option Addr) (m c : Nat), w.cell? ⟨b, o + k * 3, none⟩ = some (.int .i64 l[k].pa) ∧ w.cell? ⟨b, o + k * 3 + 1, none⟩ = some (.int .i64 l[k].rg) ∧ w.cell? ⟨b, o + k * 3 + 2, none⟩ = some (.slice q m c) ∧ CodeAt w (.slice q m c) l[k].cd := by
 obtain ⟨h1, h2, cv, h3, h4⟩ := hx k h
 have h5 := h4
 obtain ⟨q, c, rfl, _⟩ := h4
 exact ⟨q, _, c, h1, h2, h3, h5⟩
structure Pf where
 ps : List Pr
 is : List Int
 ts : List ByteArray
structure PfAt (w : World) (vp vi vt : Value) (p : Pf) : Prop where
 ps : ProtosAt w vp p.ps
 is : NumsAt' w vi p.is
 ts : TextsAt w vt p.ts
 np : p.ps.length ≤ 9223372036854775807
 ni : p.is.length ≤ 9223372036854775807
 nt : p.ts.length ≤ 9223372036854775807
 pr : ∀ f ∈ p.ps, PrL f
theorem NumsAt'.ext {w w' : World} {v : Value} {l : List Int} (h : NumsAt' w v l) (he : Ext w w') : NumsAt' w' v l := by
 obtain ⟨q, c, rfl, hq⟩ := h
 refine ⟨q, c, rfl, fun hl => ?_⟩
 obtain ⟨b, o, rfl, hx⟩ := hq hl
 exact ⟨b, o, rfl, fun i hi => he.cell (hx i hi)⟩
theorem PfAt.ext {w w' : World} {vp vi vt : Value} {p : Pf} (h : PfAt w vp vi vt p) (he : Ext w w') : PfAt w' vp vi vt p :=
 ⟨h.ps.ext he, h.is.ext he, h.ts.ext he, h.np, h.ni, h.nt, h.pr⟩
def samB (p q : Pf) : Bool := decide (p.ps = q.ps) && (decide (p.is = q.is) && decide (p.ts = q.ts))
theorem samB_self (p : Pf) : samB p p = true := by simp [samB]
end Go.Proofs.YtfjipoijbmmjcaaGreatDoor
namespace Go.Proofs.YtfjipoijbmmjcaaGreatDoor
open Go.RowKit
set_option linter.unusedVariables false
set_option linter.unusedSimpArgs false
attribute [local go_sem ↓] Go.wp_at_zero Go.wp_at_succ

structure Boxes (w : World) (B : Nat) (x0 x1 x2 y0 y1 y2 : Value) : Prop where
 x0 : w.cell? ⟨B, 0, none⟩ = some x0
 x1 : w.cell? ⟨B, 1, none⟩ = some x1
 x2 : w.cell? ⟨B, 2, none⟩ = some x2
 y0 : w.cell? ⟨B + 1, 0, none⟩ = some y0
 y1 : w.cell? ⟨B + 1, 1, none⟩ = some y1
 y2 : w.cell? ⟨B + 1, 2, none⟩ = some y2
theorem Boxes.ext {w w' : World} {B : Nat} {x0 x1 x2 y0 y1 y2 : Value} (h : Boxes w B x0 x1 x2 y0 y1 y2) (he : Ext w w') : Boxes w' B x0 x1 x2 y0 y1 y2 :=
 ⟨he.cell h.x0, he.cell h.x1, he.cell h.x2, he.cell h.y0, he.cell h.y1, he.cell h.y2⟩
theorem boxes_new (w : World) (t : TypeId) (x0 x1 x2 y0 y1 y2 : Value) : Boxes ((w.alloc (.cells #[x0, x1, x2] t)).alloc (.cells #[y0, y1, y2] t)) w.heap.size x0 x1 x2 y0 y1 y2 := by
 have h1 : Blk ((w.alloc (.cells #[x0, x1, x2] t)).alloc (.cells #[y0, y1, y2] t)) w.heap.size t #[x0, x1, x2] := (Blk.new w _ _).alloc _
 have h2 : Blk ((w.alloc (.cells #[x0, x1, x2] t)).alloc (.cells #[y0, y1, y2] t)) (w.heap.size + 1) t #[y0, y1, y2] := new_at (size_alloc _ _).symm _
 exact ⟨h1.cell 0, h1.cell 1, h1.cell 2, h2.cell 0, h2.cell 1, h2.cell 2⟩
set_option maxRecDepth 100000 in
set_option maxHeartbeats 4000000 in
theorem rsame_any (p q : Pf) (vp vi vt up ui ut : Value) (w : World) (hp : PfAt w vp vi vt p) (hq : PfAt w up ui ut q) (hlen : p.ps.length = q.ps.length) (hli : p.is.length = q.is.length) (hlt : p.ts.length = q.ts.length) :
  Calls Tryz.prog 11 #[.agg #[vp, vi, vt], .agg #[up, ui, ut]] w fun e w' => e = .returned (.bool (samB p q)) ∧ Ext w w' := by
 have HP := Lib.hid hp
 have HQ := Lib.hid hq
 obtain ⟨q1, k1, rfl, p1⟩ := hp.ps
 obtain ⟨q2, k2, rfl, p2⟩ := hp.is
 obtain ⟨q3, k3, rfl, p3⟩ := hp.ts
 obtain ⟨q4, k4, rfl, p4⟩ := hq.ps
 obtain ⟨q5, k5, rfl, p5⟩ := hq.is
 obtain ⟨q6, k6, rfl, p6⟩ := hq.ts
 obtain ⟨n, hn⟩ : ∃ n, p.ps.length = n := ⟨_, rfl⟩
 obtain ⟨m, hm⟩ : ∃ n, p.is.length = n := ⟨_, rfl⟩
 obtain ⟨z, hz⟩ : ∃ n, p.ts.length = n := ⟨_, rfl⟩
 have n1 : n ≤ 9223372036854775807 := by rw [← hn]; exact hp.np
 have n2 : m ≤ 9223372036854775807 := by rw [← hm]; exact hp.ni
 have n3 : z ≤ 9223372036854775807 := by rw [← hz]; exact hp.nt
 rw [hn] at hlen HP ⊢
 rw [hm] at hli HP ⊢
 rw [hz] at hlt HP ⊢
 rw [← hlen, ← hli, ← hlt] at HQ ⊢
 have HN := Lib.hid hn
 have HN' := Lib.hid hlen.symm
 have HM := Lib.hid hm
 have HM' := Lib.hid hli.symm
 have HZ := Lib.hid hz
 have HZ' := Lib.hid hlt.symm
 have P1 := Lib.hid p1
 have P2 := Lib.hid p2
 have P3 := Lib.hid p3
 have P4 := Lib.hid p4
 have P5 := Lib.hid p5
 have P6 := Lib.hid p6
 have HT : Hid (p.ps.take 0 = q.ps.take 0) := Lib.hid rfl
 clear hp hq hn hm hz hlen hli hlt p1 p2 p3 p4 p5 p6
 have HB := Lib.hid (boxes_new w 26 (.slice q1 n k1) (.slice q2 m k2) (.slice q3 z k3) (.slice q4 n k4) (.slice q5 m k5) (.slice q6 z k6))
 go_enter Tryz.func11, Tryz.ntmps11
 go_wp2_with fail
 go_loopw [5] (fun i wr => ∃ k : Nat, k ≤ n ∧ i = .int .i64 k ∧ Hid (p.ps.take k = q.ps.take k) ∧ Ext w wr ∧ Hid (Boxes wr w.heap.size (.slice q1 n k1) (.slice q2 m k2) (.slice q3 z k3) (.slice q4 n k4) (.slice q5 m k5) (.slice q6 z k6))) (fun i _ => n - (intOf i).toNat)
 case atStart => exact ⟨0, Nat.zero_le _, rfl, HT, ((Ext.refl w).alloc _).alloc _, HB⟩
 case round =>
  obtain ⟨k, hk, rfl, HK, he, HX⟩ := hrel
  have HE := Lib.hid he
  clear he HB
  by_cases hlt : k < n
  ·have kl : k < p.ps.length := by rw [HN.out]; exact hlt
   have km : k < q.ps.length := by rw [HN'.out]; exact hlt
   obtain ⟨b, o, rfl, hx⟩ := P1.out (Nat.zero_lt_of_lt kl)
   obtain ⟨b', o', rfl, hy⟩ := P4.out (Nat.zero_lt_of_lt km)
   obtain ⟨qx, mx, ccx, cx0, cx1, cx2, cx3⟩ := pr_at hx k kl
   obtain ⟨qy, my, ccy, cy0, cy1, cy2, cy3⟩ := pr_at hy k km
   replace cx0 := HE.out.cell cx0
   replace cx1 := HE.out.cell cx1
   replace cx2 := HE.out.cell cx2
   replace cy0 := HE.out.cell cy0
   replace cy1 := HE.out.cell cy1
   replace cy2 := HE.out.cell cy2
   replace cx3 := cx3.ext HE.out
   replace cy3 := cy3.ext HE.out
   have lx := cell_lt cx0
   have ly := cell_lt cy0
   simp only at lx ly
   have HS := Lib.hid (take_eq_succ HK.out kl km)
   have HD := Lib.hid (ne_of_at (l := p.ps) (m := q.ps) k kl km)
   have px := HP.out.pr _ (List.getElem_mem kl)
   have py := HQ.out.pr _ (List.getElem_mem km)
   obtain ⟨x, hx'⟩ : ∃ x, p.ps[k] = x := ⟨_, rfl⟩
   obtain ⟨y, hy'⟩ : ∃ y, q.ps[k] = y := ⟨_, rfl⟩
   rw [hx'] at cx0 cx1 cx3 HS HD px
   rw [hy'] at cy0 cy1 cy3 HS HD py
   clear hx hy hx' hy' kl km
   have k0 : (0 : Int) ≤ (k : Int) := by omega
   have k1' : (k : Int) < (n : Int) := by omega
   have X0 := HX.out.x0
   have Y0 := HX.out.y0
   have lB := cell_lt Y0
   simp only at lB
   go_upto_region 6 with fail
   go_cut [6, 7] (fun s6 s7 wx => ∃ g h, s6 = .pointer (some ⟨g, 0, none⟩) ∧ s7 = .pointer (some ⟨h, 0, none⟩) ∧ Ext wr wx ∧ Blk wx g 39 #[.int .i64 x.pa, .int .i64 x.rg, .slice qx mx ccx] ∧ Blk wx h 39 #[.int .i64 y.pa, .int .i64 y.rg, .slice qy my ccy])
   case first =>
    go_region_held3 (fun w' => w'.cell? ⟨w.heap.size, 0, none⟩ = some (.slice (some ⟨b, o, none⟩) n k1) ∧ w'.cell? ⟨w.heap.size + 1, 0, none⟩ = some (.slice (some ⟨b', o', none⟩) n k4)
     ∧ w'.cell? ⟨b, o + k * 3, none⟩ = some (.int .i64 x.pa) ∧ w'.cell? ⟨b, o + k * 3 + 1, none⟩ = some (.int .i64 x.rg) ∧ w'.cell? ⟨b, o + k * 3 + 2, none⟩ = some (.slice qx mx ccx)
     ∧ w'.cell? ⟨b', o' + k * 3, none⟩ = some (.int .i64 y.pa) ∧ w'.cell? ⟨b', o' + k * 3 + 1, none⟩ = some (.int .i64 y.rg) ∧ w'.cell? ⟨b', o' + k * 3 + 2, none⟩ = some (.slice qy my ccy)) (go_keep) (fail)
    all_goals (go_wp2_with fail; go_meet; first | exact ⟨_, _, rfl, rfl, ((((Ext.refl _).alloc _).alloc _).drew), (((Blk.new _ _ _).alloc _).drew), Blk.drew (new_at (size_alloc _ _).symm _)⟩ | exact ⟨_, _, rfl, rfl, ((((Ext.refl _).alloc _).alloc _).drew), Blk.drew (new_at (size_alloc _ _).symm _), (((Blk.new _ _ _).alloc _).drew)⟩)
   case rest =>
    obtain ⟨g, h, rfl, rfl, e1, bg, bh⟩ := hcut
    have E1 := Lib.hid (HE.out.trans e1)
    have HX1 := Lib.hid (HX.out.ext e1)
    replace cx3 := cx3.ext e1
    replace cy3 := cy3.ext e1
    have g0 := bg.cell 0
    have g1 := bg.cell 1
    have g2 := bg.cell 2
    have h0 := bh.cell 0
    have h1 := bh.cell 1
    have h2 := bh.cell 2
    simp only [List.getElem?_toArray, List.getElem?_cons_zero, List.getElem?_cons_succ] at g0 g1 g2 h0 h1 h2
    clear bg bh e1 cx0 cx1 cx2 cy0 cy1 cy2 X0 Y0 lB lx ly HX HE
    obtain ⟨_, _, ee, hcx⟩ := cx3
    cases ee
    obtain ⟨_, _, ee, hcy⟩ := cy3
    cases ee
    obtain ⟨a, ha⟩ : ∃ a, x.cd.length = a := ⟨_, rfl⟩
    obtain ⟨a', ha'⟩ : ∃ a, y.cd.length = a := ⟨_, rfl⟩
    have la : a ≤ 9223372036854775807 := by rw [← ha]; exact px
    have la' : a' ≤ 9223372036854775807 := by rw [← ha']; exact py
    rw [ha] at g2
    rw [ha'] at h2
    have HA := Lib.hid ha
    have HA' := Lib.hid ha'
    have HCX := Lib.hid hcx
    have HCY := Lib.hid hcy
    have HPE := Lib.hid (pr_eq x y)
    clear ha ha' hcx hcy px py
    cases t1 : (x.pa != y.pa)
    rotate_left
    ·have hd := Lib.hid (decide_eq_false (HD.out (fun e => by simp [e] at t1)))
     go_wp2_with fail
     go_ret
     exact ⟨ret_of (bool_eq (by unfold samB; rw [hd.out]; rfl)), E1.out⟩
    cases t2 : (x.rg != y.rg)
    rotate_left
    ·have hd := Lib.hid (decide_eq_false (HD.out (fun e => by simp [e] at t2)))
     go_wp2_with fail
     go_ret
     exact ⟨ret_of (bool_eq (by unfold samB; rw [hd.out]; rfl)), E1.out⟩
    by_cases t3 : a = a'
    rotate_left
    ·have t4 : ((a : Int) != (a' : Int)) = true := by simp; omega
     have hd := Lib.hid (decide_eq_false (HD.out (fun e => t3 (by rw [← HA.out, ← HA'.out, e]))))
     clear t3
     go_wp2_with fail
     go_ret
     exact ⟨ret_of (bool_eq (by unfold samB; rw [hd.out]; rfl)), E1.out⟩
    subst t3
    have HXY : Hid (x.cd = y.cd → x = y) := Lib.hid (fun e => by
     have := HPE.out
     rw [show (x.pa == y.pa) = true by simpa using t1, show (x.rg == y.rg) = true by simpa using t2, decide_eq_true e] at this
     exact of_decide_eq_true this.symm)
    have T0 : Hid (x.cd.take 0 = y.cd.take 0) := Lib.hid rfl
    have tt : ((a : Int) != (a : Int)) = false := by simp
    go_wp2_with fail
    obtain ⟨wo, rfl⟩ : ∃ wo : World, wo = wc := ⟨_, rfl⟩
    go_loopw [8] (fun i wr => ∃ j : Nat, j ≤ a ∧ i = .int .i64 j ∧ Hid (x.cd.take j = y.cd.take j) ∧ Ext wo wr) (fun i _ => a - (intOf i).toNat)
    case atStart => exact ⟨0, Nat.zero_le _, rfl, T0, Ext.refl _⟩
    case round =>
     obtain ⟨j, hj, rfl, HJ, hoe⟩ := hrel
     have OE := Lib.hid hoe
     replace g2 := hoe.cell g2
     replace h2 := hoe.cell h2
     clear hoe g0 g1 h0 h1
     by_cases hja : j < a
     ·have jl : j < x.cd.length := by rw [HA.out]; exact hja
      have jm : j < y.cd.length := by rw [HA'.out]; exact hja
      obtain ⟨b2, o2, rfl, hx⟩ := HCX.out (Nat.zero_lt_of_lt jl)
      obtain ⟨b3, o3, rfl, hy⟩ := HCY.out (Nat.zero_lt_of_lt jm)
      have cx0 := OE.out.cell (hx j jl).1
      have cx1 := OE.out.cell (hx j jl).2.1
      have cx2 := OE.out.cell (hx j jl).2.2.1
      have cx3 := OE.out.cell (hx j jl).2.2.2
      have cy0 := OE.out.cell (hy j jm).1
      have cy1 := OE.out.cell (hy j jm).2.1
      have cy2 := OE.out.cell (hy j jm).2.2.1
      have cy3 := OE.out.cell (hy j jm).2.2.2
      have HS2 := Lib.hid (take_eq_succ HJ.out jl jm)
      have HD2 := Lib.hid (ne_of_at (l := x.cd) (m := y.cd) j jl jm)
      obtain ⟨x', hx'⟩ : ∃ x', x.cd[j] = x' := ⟨_, rfl⟩
      obtain ⟨y', hy'⟩ : ∃ y', y.cd[j] = y' := ⟨_, rfl⟩
      rw [hx'] at cx0 cx1 cx2 cx3 HS2 HD2
      rw [hy'] at cy0 cy1 cy2 cy3 HS2 HD2
      clear hx hy hx' hy' jl jm
      have j0 : (0 : Int) ≤ (j : Int) := by omega
      have j1 : (j : Int) < (a : Int) := by omega
      have f1 := ins_guard
      have f2 := fun wq => ins_neq x' y' wq
      cases hb : (x' != y')
      ·have HZ1 := Lib.hid (HS2.out (by simpa using hb))
       go_wp2
       go_quiet (fail)
       go_wp2
       go_roundw
       case rel => exact ⟨j + 1, hja, by go_num, HZ1, OE.out.drewN _⟩
       case measure => simp [intOf]; omega
      ·have hd := Lib.hid (decide_eq_false (HD.out (fun e => HD2.out (fun e2 => by simp [e2] at hb) (by rw [e]))))
       go_wp2
       go_quiet (fail)
       go_wp2
       go_ret
       exact ⟨ret_of (bool_eq (by unfold samB; rw [hd.out]; rfl)), (E1.out.trans OE.out).drewN _⟩
     ·obtain rfl : j = a := by omega
      have hd := Lib.hid (HS.out (HXY.out (eq_of_take HJ.out HA.out HA'.out)))
      have HX2 := Lib.hid (HX1.out.ext OE.out)
      go_wp2
      go_roundw
      case rel => exact ⟨k + 1, hlt, by go_num, hd, E1.out.trans OE.out, HX2⟩
      case measure => simp [intOf]; omega
  ·obtain rfl : n = k := by omega
   have DP := Lib.hid (decide_eq_true (eq_of_take HK.out HN.out HN'.out))
   have X0 := HX.out.x0
   have Y0 := HX.out.y0
   have TI : Hid (p.is.take 0 = q.is.take 0) := Lib.hid rfl
   have TT : Hid (p.ts.take 0 = q.ts.take 0) := Lib.hid rfl
   clear HK HT
   go_wp2_with fail
   clear X0 Y0
   obtain ⟨wo, rfl⟩ : ∃ wo : World, wo = wr := ⟨_, rfl⟩
   go_loopw [9] (fun i wr => ∃ k : Nat, k ≤ m ∧ i = .int .i64 k ∧ Hid (p.is.take k = q.is.take k) ∧ Ext w wr ∧ Hid (Boxes wr w.heap.size (.slice q1 n k1) (.slice q2 m k2) (.slice q3 z k3) (.slice q4 n k4) (.slice q5 m k5) (.slice q6 z k6))) (fun i _ => m - (intOf i).toNat)
   case atStart => exact ⟨0, Nat.zero_le _, rfl, TI, HE.out, HX⟩
   case round =>
    clear HE HX
    obtain ⟨k, hk, rfl, HK, he, HX⟩ := hrel
    have HE := Lib.hid he
    clear he
    have X0 := HX.out.x1
    have Y0 := HX.out.y1
    by_cases hlt : k < m
    ·have kl : k < p.is.length := by rw [HM.out]; exact hlt
     have km : k < q.is.length := by rw [HM'.out]; exact hlt
     obtain ⟨b, o, rfl, hx⟩ := P2.out (Nat.zero_lt_of_lt kl)
     obtain ⟨b', o', rfl, hy⟩ := P5.out (Nat.zero_lt_of_lt km)
     have cx := HE.out.cell (hx k kl)
     have cy := HE.out.cell (hy k km)
     have HS := Lib.hid (take_eq_succ HK.out kl km)
     have HD := Lib.hid (ne_of_at (l := p.is) (m := q.is) k kl km)
     obtain ⟨x, hx'⟩ : ∃ x, p.is[k] = x := ⟨_, rfl⟩
     obtain ⟨y, hy'⟩ : ∃ y, q.is[k] = y := ⟨_, rfl⟩
     rw [hx'] at cx HS HD
     rw [hy'] at cy HS HD
     clear hx hy hx' hy' kl km
     have k0 : (0 : Int) ≤ (k : Int) := by omega
     have k1' : (k : Int) < (m : Int) := by omega
     cases hb : (x != y)
     ·have HZ1 := Lib.hid (HS.out (by simpa using hb))
      go_wp2
      go_quiet (fail)
      go_wp2
      go_roundw
      case rel => exact ⟨k + 1, hlt, by go_num, HZ1, HE.out.drewN _, Lib.hid (HX.out.ext ((Ext.refl _).drewN _))⟩
      case measure => simp [intOf]; omega
     ·have hd := Lib.hid (decide_eq_false (HD.out (fun e => by simp [e] at hb)))
      go_wp2
      go_quiet (fail)
      go_wp2
      go_ret
      exact ⟨ret_of (bool_eq (by unfold samB; rw [DP.out, hd.out]; rfl)), HE.out.drewN _⟩
    ·obtain rfl : m = k := by omega
     have DI := Lib.hid (decide_eq_true (eq_of_take HK.out HM.out HM'.out))
     clear HK
     go_wp2_with fail
     clear X0 Y0
     obtain ⟨wo2, rfl⟩ : ∃ wo : World, wo = wr := ⟨_, rfl⟩
     go_loopw [10] (fun i wr => ∃ k : Nat, k ≤ z ∧ i = .int .i64 k ∧ Hid (p.ts.take k = q.ts.take k) ∧ Ext w wr ∧ Hid (Boxes wr w.heap.size (.slice q1 n k1) (.slice q2 m k2) (.slice q3 z k3) (.slice q4 n k4) (.slice q5 m k5) (.slice q6 z k6))) (fun i _ => z - (intOf i).toNat)
     case atStart => exact ⟨0, Nat.zero_le _, rfl, TT, HE.out, HX⟩
     case round =>
      clear HE HX
      obtain ⟨k, hk, rfl, HK, he, HX⟩ := hrel
      have HE := Lib.hid he
      clear he
      have X0 := HX.out.x2
      have Y0 := HX.out.y2
      by_cases hlt : k < z
      ·have kl : k < p.ts.length := by rw [HZ.out]; exact hlt
       have km : k < q.ts.length := by rw [HZ'.out]; exact hlt
       obtain ⟨b, o, rfl, hx⟩ := P3.out (Nat.zero_lt_of_lt kl)
       obtain ⟨b', o', rfl, hy⟩ := P6.out (Nat.zero_lt_of_lt km)
       have cx := HE.out.cell (hx k kl)
       have cy := HE.out.cell (hy k km)
       have HS := Lib.hid (take_eq_succ HK.out kl km)
       have HD := Lib.hid (ne_of_at (l := p.ts) (m := q.ts) k kl km)
       obtain ⟨x, hx'⟩ : ∃ x, p.ts[k] = x := ⟨_, rfl⟩
       obtain ⟨y, hy'⟩ : ∃ y, q.ts[k] = y := ⟨_, rfl⟩
       rw [hx'] at cx HS HD
       rw [hy'] at cy HS HD
       clear hx hy hx' hy' kl km
       have k0 : (0 : Int) ≤ (k : Int) := by omega
       have k1' : (k : Int) < (z : Int) := by omega
       cases hb : (!x.toList == y.toList)
       ·have HZ1 := Lib.hid (HS.out (ba_eq (by simpa using hb)))
        go_wp2
        go_quiet (fail)
        go_wp2
        go_roundw
        case rel => exact ⟨k + 1, hlt, by go_num, HZ1, HE.out.drewN _, Lib.hid (HX.out.ext ((Ext.refl _).drewN _))⟩
        case measure => simp [intOf]; omega
       ·have hd := Lib.hid (decide_eq_false (HD.out (fun e => by simp [e] at hb)))
        go_wp2
        go_quiet (fail)
        go_wp2
        go_ret
        exact ⟨ret_of (bool_eq (by unfold samB; rw [DP.out, DI.out, hd.out]; rfl)), HE.out.drewN _⟩
      ·obtain rfl : z = k := by omega
       have DT := Lib.hid (decide_eq_true (eq_of_take HK.out HZ.out HZ'.out))
       clear HK
       go_wp2
       go_ret
       exact ⟨ret_of (bool_eq (by unfold samB; rw [DP.out, DI.out, DT.out]; rfl)), HE.out⟩
theorem samB_len {p q : Pf} (h : ¬ (p.ps.length = q.ps.length ∧ p.is.length = q.is.length ∧ p.ts.length = q.ts.length)) : samB p q = false := by
 cases hb : samB p q
 ·rfl
 ·unfold samB at hb
  simp only [Bool.and_eq_true, decide_eq_true_eq] at hb
  exact absurd ⟨by rw [hb.1], by rw [hb.2.1], by rw [hb.2.2]⟩ h
theorem ne_int {a b : Nat} (h : ¬ a = b) : ((a : Int) != (b : Int)) = true := by simp; omega
set_option maxRecDepth 100000 in
set_option maxHeartbeats 4000000 in
theorem rsame_all (p q : Pf) (vp vi vt up ui ut : Value) (w : World) (hp : PfAt w vp vi vt p) (hq : PfAt w up ui ut q) :
  Calls Tryz.prog 11 #[.agg #[vp, vi, vt], .agg #[up, ui, ut]] w fun e w' => e = .returned (.bool (samB p q)) ∧ Ext w w' := by
 by_cases h1 : p.ps.length = q.ps.length
 rotate_left
 ·have hd := Lib.hid (samB_len (p := p) (q := q) (fun e => h1 e.1))
  have t1 := ne_int h1
  obtain ⟨q1, k1, rfl, p1⟩ := hp.ps
  obtain ⟨q2, k2, rfl, p2⟩ := hp.is
  obtain ⟨q3, k3, rfl, p3⟩ := hp.ts
  obtain ⟨q4, k4, rfl, p4⟩ := hq.ps
  obtain ⟨q5, k5, rfl, p5⟩ := hq.is
  obtain ⟨q6, k6, rfl, p6⟩ := hq.ts
  clear p1 p2 p3 p4 p5 p6 hp hq h1
  go_enter Tryz.func11, Tryz.ntmps11
  go_wp2_with fail
  go_ret
  exact ⟨ret_of (bool_eq hd.out.symm), ((Ext.refl _).alloc _).alloc _⟩
 by_cases h2 : p.is.length = q.is.length
 rotate_left
 ·have hd := Lib.hid (samB_len (p := p) (q := q) (fun e => h2 e.2.1))
  have t2 := ne_int h2
  have t1 : ((p.ps.length : Int) != (q.ps.length : Int)) = false := by simp [h1]
  obtain ⟨q1, k1, rfl, p1⟩ := hp.ps
  obtain ⟨q2, k2, rfl, p2⟩ := hp.is
  obtain ⟨q3, k3, rfl, p3⟩ := hp.ts
  obtain ⟨q4, k4, rfl, p4⟩ := hq.ps
  obtain ⟨q5, k5, rfl, p5⟩ := hq.is
  obtain ⟨q6, k6, rfl, p6⟩ := hq.ts
  clear p1 p2 p3 p4 p5 p6 hp hq h1 h2
  go_enter Tryz.func11, Tryz.ntmps11
  go_wp2_with fail
  go_ret
  exact ⟨ret_of (bool_eq hd.out.symm), ((Ext.refl _).alloc _).alloc _⟩
 by_cases h3 : p.ts.length = q.ts.length
 rotate_left
 ·have hd := Lib.hid (samB_len (p := p) (q := q) (fun e => h3 e.2.2))
  have t3 := ne_int h3
  have t1 : ((p.ps.length : Int) != (q.ps.length : Int)) = false := by simp [h1]
  have t2 : ((p.is.length : Int) != (q.is.length : Int)) = false := by simp [h2]
  obtain ⟨q1, k1, rfl, p1⟩ := hp.ps
  obtain ⟨q2, k2, rfl, p2⟩ := hp.is
  obtain ⟨q3, k3, rfl, p3⟩ := hp.ts
  obtain ⟨q4, k4, rfl, p4⟩ := hq.ps
  obtain ⟨q5, k5, rfl, p5⟩ := hq.is
  obtain ⟨q6, k6, rfl, p6⟩ := hq.ts
  clear p1 p2 p3 p4 p5 p6 hp hq h1 h2 h3
  go_enter Tryz.func11, Tryz.ntmps11
  go_wp2_with fail
  go_ret
  exact ⟨ret_of (bool_eq hd.out.symm), ((Ext.refl _).alloc _).alloc _⟩
 exact rsame_any p q vp vi vt up ui ut w hp hq h1 h2 h3
end Go.Proofs.YtfjipoijbmmjcaaGreatDoor
namespace Go.Proofs.YtfjipoijbmmjcaaGreatDoor
open Go.RowKit
set_option linter.unusedVariables false
set_option linter.unusedSimpArgs false

theorem proto_at' {w : World} {b o : Nat} {l : List Pr} (hx : ∀ i (h : i < l.length), w.cell? ⟨b, o + i * 3, none⟩ = some (.int .i64 l[i].pa) ∧ w.cell? ⟨b, o + i * 3 + 1, none⟩ = some (.int .i64 l[i].rg) ∧ ∃ cv, w.cell? ⟨b, o + i * 3 + 2, none⟩ = some cv ∧ CodeAt w cv l[i].cd)
  (k : Nat) (h : k < l.length) : ∃ (q : Option Addr) (c : Nat), w.cell? ⟨b, o + k * 3, none⟩ = some (.int .i64 l[k].pa) ∧ w.cell? ⟨b, o + k * 3 + 1, none⟩ = some (.int .i64 l[k].rg) ∧ w.cell? ⟨b, o + k * 3 + 2, none⟩ = some (.slice q l[k].cd.length c) ∧ CodeAt w (.slice q l[k].cd.length c) l[k].cd := by
 obtain ⟨h1, h2, cv, h3, h4⟩ := hx k h
 have h5 := h4
 obtain ⟨q, c, rfl, _⟩ := h4
 exact ⟨q, c, h1, h2, h3, h5⟩
structure NotLarge (p : Pg) : Prop where
 np : p.ps.length ≤ 10
 ni : p.ni ≤ 60
 nt : p.ts.length ≤ 60
 nc : ∀ f ∈ p.ps, f.cd.length ≤ 100
def LargeSays (p : Pg) (w : World) (e : Ending) (w' : World) : Prop := ∃ b : Bool, e = .returned (.bool b) ∧ Ext w w' ∧ (b = false → NotLarge p)
theorem says_yes {p : Pg} {w w' : World} (h : Ext w w') : LargeSays p w (.returned (.bool true)) w' := ⟨true, rfl, h, fun h => by cases h⟩
theorem says_no {p : Pg} {w w' : World} (h : Ext w w') (hn : NotLarge p) : LargeSays p w (.returned (.bool false)) w' := ⟨false, rfl, h, fun _ => hn⟩
set_option maxRecDepth 100000 in
set_option maxHeartbeats 4000000 in
theorem large_any (p : Pg) (vp vi vt : Value) (w : World) (h0 : Lies w vp vi vt p) (n1 : p.ps.length ≤ 9223372036854775807) (n2 : p.ni ≤ 9223372036854775807) (n3 : p.ts.length ≤ 9223372036854775807)
  (nc : ∀ f ∈ p.ps, f.cd.length ≤ 9223372036854775807) (nz : ∀ s ∈ p.ts, s.size ≤ 9223372036854775807) :
  Calls Tryz.prog 5 #[.agg #[vp, vi, vt]] w (LargeSays p w) := by
 have H := Lib.hid h0
 obtain ⟨qp, cp, rfl, hx⟩ := h0.ps
 obtain ⟨qi, ci, rfl⟩ := h0.is
 obtain ⟨qt, ct, rfl, hy⟩ := h0.ts
 obtain ⟨a, ha⟩ : ∃ a, p.ps.length = a := ⟨_, rfl⟩
 obtain ⟨b, hb⟩ : ∃ b, p.ni = b := ⟨_, rfl⟩
 obtain ⟨c, hc⟩ : ∃ c, p.ts.length = c := ⟨_, rfl⟩
 rw [ha] at n1
 rw [hb] at n2
 rw [hc] at n3
 rw [ha, hb, hc]
 have HX := Lib.hid hx
 have HY := Lib.hid hy
 have HA := Lib.hid ha
 have HB := Lib.hid hb
 have HC := Lib.hid hc
 have NC := Lib.hid nc
 have NZ := Lib.hid nz
 clear hx hy ha hb hc h0 H nc nz
 cases d1 : decide (10 < (a : Int))
 rotate_left
 ·go_enter Tryz.func5, Tryz.ntmps5
  go_wp2_with fail
  go_ret
  exact says_yes ((Ext.refl w).alloc _)
 cases d2 : decide (60 < (b : Int))
 rotate_left
 ·go_enter Tryz.func5, Tryz.ntmps5
  go_wp2_with fail
  go_ret
  exact says_yes ((Ext.refl w).alloc _)
 cases d3 : decide (60 < (c : Int))
 rotate_left
 ·go_enter Tryz.func5, Tryz.ntmps5
  go_wp2_with fail
  go_ret
  exact says_yes ((Ext.refl w).alloc _)
 have hN := Lib.hid (show a ≤ 10 ∧ b ≤ 60 ∧ c ≤ 60 from ⟨by have := of_decide_eq_false d1; omega, by have := of_decide_eq_false d2; omega, by have := of_decide_eq_false d3; omega⟩)
 go_enter Tryz.func5, Tryz.ntmps5
 go_wp2_with fail
 have k0 : Ext w (w.alloc (.cells #[.slice qp a cp, .slice qi b ci, .slice qt c ct] 26)) := (Ext.refl w).alloc _
 have b0 := Lib.hid (Blk.new w 26 #[.slice qp a cp, .slice qi b ci, .slice qt c ct])
 generalize hwb : w.alloc (.cells #[.slice qp a cp, .slice qi b ci, .slice qt c ct] 26) = wb at *
 clear hwb d1 d2 d3
 have t0 := b0.out.cell 0
 have t2 := b0.out.cell 2
 simp only [List.getElem?_toArray, List.getElem?_cons_zero, List.getElem?_cons_succ] at t0 t2
 have K0 := Lib.hid k0
 clear k0
 go_loopg [4] a (fun g s4 wr => ∃ k : Nat, k + g = a ∧ s4 = .int .i64 k ∧ wr = wb ∧ Hid (∀ i (h : i < p.ps.length), i < k → p.ps[i].cd.length ≤ 100))
 case atStart => exact ⟨0, by omega, rfl, rfl, fun i _ h => absurd h (Nat.not_lt_zero i)⟩
 case round =>
  obtain ⟨k, hkg, rfl, rfl, HK⟩ := hrel
  cases gk with
  | succ g =>
   have hkz : (k : Int) < (a : Int) := by omega
   have hkl : k < p.ps.length := by rw [HA.out]; omega
   obtain ⟨pb, po, rfl, hx⟩ := HX.out (by rw [HA.out]; omega)
   obtain ⟨q1, cc, c1, c2, c3, c4⟩ := proto_at' hx k hkl
   have hlen := NC.out _ (List.getElem_mem hkl)
   have HS := Lib.hid (show p.ps[k].cd.length ≤ 100 → ∀ i (h : i < p.ps.length), i < k + 1 → p.ps[i].cd.length ≤ 100 from fun h0 i hi hik => by
    rcases Nat.lt_succ_iff_lt_or_eq.1 hik with h | rfl
    ·exact HK.out i hi h
    ·exact h0)
   obtain ⟨f0, hf0⟩ : ∃ f, p.ps[k] = f := ⟨_, rfl⟩
   rw [hf0] at c1 c2 c3 c4 hlen HS
   replace c3 := K0.out.cell c3
   clear hf0 hx c4 c1 c2 hkl
   obtain ⟨y, hy⟩ : ∃ y, f0.cd.length = y := ⟨_, rfl⟩
   rw [hy] at c3 hlen HS
   clear hy
   cases dy : decide (100 < (y : Int))
   ·have HZ := Lib.hid (HS.out (by have := of_decide_eq_false dy; omega))
    go_wp2_with fail
    go_roundg g
    case rel => exact ⟨k + 1, by omega, by go_num, by first | rfl | trivial, HZ⟩
    case measure => exact Nat.lt_succ_self _
   ·go_wp2_with fail
    go_ret
    exact says_yes K0.out
  | zero =>
   obtain rfl : k = a := by omega
   have hkz : ¬ ((k : Int) < (k : Int)) := by omega
   have HNL := Lib.hid (show NotLarge p from ⟨by rw [HA.out]; exact hN.out.1, by rw [HB.out]; exact hN.out.2.1, by rw [HC.out]; exact hN.out.2.2, fun f hf => by
    obtain ⟨i, hi, rfl⟩ := List.getElem_of_mem hf
    exact HK.out i hi (by rw [← HA.out]; exact hi)⟩)
   obtain ⟨wc, rfl⟩ : ∃ wc : World, wc = wr := ⟨_, rfl⟩
   go_wp2_with fail
   go_loopg [3, 5] c (fun g s3 s5 wr => ∃ (k : Nat) (x : Int), k + g = c ∧ s3 = .int .i64 x ∧ s5 = .int .i64 k ∧ wr = wc ∧ -9223372036854775808 ≤ x ∧ x ≤ 2000)
   case atStart => exact ⟨0, 0, by omega, rfl, rfl, rfl, by omega, by omega⟩
   case round =>
    obtain ⟨j, x, hjg, rfl, rfl, rfl, x0, x1⟩ := hrel
    cases gk with
    | zero =>
     obtain rfl : j = c := by omega
     have hjz : ¬ ((j : Int) < (j : Int)) := by omega
     go_wp2_with fail
     go_ret
     exact says_no K0.out HNL.out
    | succ g =>
     have hjz : (j : Int) < (c : Int) := by omega
     have hjl : j < p.ts.length := by rw [HC.out]; omega
     obtain ⟨tb, tof, rfl, hy⟩ := HY.out (by rw [HC.out]; omega)
     have c1 := K0.out.cell (hy j hjl)
     have hz := NZ.out _ (List.getElem_mem hjl)
     obtain ⟨s0, hs0⟩ : ∃ s, p.ts[j] = s := ⟨_, rfl⟩
     rw [hs0] at c1 hz
     clear hs0 hy hjl
     obtain ⟨y, hy⟩ : ∃ y, IntKind.i64.wrap (x + (s0.size : Int)) = y := ⟨_, rfl⟩
     have yr : -9223372036854775808 ≤ y ∧ y ≤ 9223372036854775807 := by rw [← hy, IntKind.wrap_i64]; omega
     cases dy : decide (2000 < y)
     ·have y1 := of_decide_eq_false dy
      have y2 : -9223372036854775808 ≤ y ∧ y ≤ 2000 := ⟨yr.1, by omega⟩
      clear yr y1
      go_wp2_with fail
      go_roundg g
      case rel => exact ⟨j + 1, y, by omega, rfl, by go_num, by first | rfl | trivial, y2.1, y2.2⟩
      case measure => exact Nat.lt_succ_self _
     ·clear yr
      go_wp2_with fail
      go_ret
      exact says_yes K0.out
end Go.Proofs.YtfjipoijbmmjcaaGreatDoor
