/- Are two programs the same: the code's Same. -/
import Derived.Test.YtifabbjgbfpfbaaDoorSamA
import Derived.Test.YtifabbjgbfpfbaaDoorExt
import Derived.Test.YtifabbjgbfpfbaaDoorCodD
namespace Go.Proofs.YtifabbjgbfpfbaaDoor
open Go.RowKit
set_option linter.unusedVariables false
set_option linter.unusedSimpArgs false

deriving instance DecidableEq for Pr
def PrL (f : Pr) : Prop := f.cd.length ≤ 9223372036854775807
theorem pr_eq (f g : Pr) : (f.pa == g.pa && (f.rg == g.rg && decide (f.cd = g.cd))) = decide (f = g) := by
  obtain ⟨a, b, c⟩ := f
  obtain ⟨a', b', c'⟩ := g
  rw [Bool.eq_iff_iff]
  simp
set_option maxRecDepth 100000 in
set_option maxHeartbeats 4000000 in
theorem one_same (f g : Pr) (v u : Value) (w : World) (hf : CodeAt w v f.cd) (hg : CodeAt w u g.cd) (n1 : PrL f) (n2 : PrL g) :
    Calls Tryd.prog 21 #[.agg #[.int .i64 f.pa, .int .i64 f.rg, v], .agg #[.int .i64 g.pa, .int .i64 g.rg, u]] w fun e w' => e = .returned (.bool (decide (f = g))) ∧ Ext w w' := by
  have HE := Lib.hid (pr_eq f g)
  have cE := fun W (hE : Ext w W) => eq_code f.cd g.cd v u W (hf.ext hE) (hg.ext hE) n1 n2
  obtain ⟨q, c, rfl, hx⟩ := hf
  obtain ⟨q', c', rfl, hy⟩ := hg
  clear hx hy
  cases h1 : (f.pa == g.pa)
  · have HD : Hid (decide (f = g) = false) := Lib.hid (by rw [← HE.out, h1]; rfl)
    go_enter Tryd.func21, Tryd.ntmps21
    go_wp2
    go_ret
    exact ⟨ret_of (bool_eq HD.out.symm), ((Ext.refl w).alloc _).alloc _⟩
  cases h2 : (f.rg == g.rg)
  · have HD : Hid (decide (f = g) = false) := Lib.hid (by rw [← HE.out, h1, h2]; rfl)
    go_enter Tryd.func21, Tryd.ntmps21
    go_wp2
    go_ret
    exact ⟨ret_of (bool_eq HD.out.symm), ((Ext.refl w).alloc _).alloc _⟩
  have HD : Hid (decide (f = g) = decide (f.cd = g.cd)) := Lib.hid (by rw [← HE.out, h1, h2]; rfl)
  go_enter Tryd.func21, Tryd.ntmps21
  go_wp2_with fail
  refine (cE _ (((Ext.refl w).alloc _).alloc _)).mono ?_
  rintro e w' ⟨rfl, e1⟩
  go_wp2_with fail
  go_ret
  exact ⟨ret_of (bool_eq HD.out.symm), (((Ext.refl w).alloc _).alloc _).trans e1⟩

theorem pr_at {w : World} {b o : Nat} {l : List Pr} (hx : ∀ i (h : i < l.length), w.cell? ⟨b, o + i * 3, none⟩ = some (.int .i64 l[i].pa) ∧ w.cell? ⟨b, o + i * 3 + 1, none⟩ = some (.int .i64 l[i].rg) ∧ ∃ cv, w.cell? ⟨b, o + i * 3 + 2, none⟩ = some cv ∧ CodeAt w cv l[i].cd)
    (k : Nat) (h : k < l.length) : ∃ (q : Option Addr) (m c : Nat), w.cell? ⟨b, o + k * 3, none⟩ = some (.int .i64 l[k].pa) ∧ w.cell? ⟨b, o + k * 3 + 1, none⟩ = some (.int .i64 l[k].rg) ∧ w.cell? ⟨b, o + k * 3 + 2, none⟩ = some (.slice q m c) ∧ CodeAt w (.slice q m c) l[k].cd := by
  obtain ⟨h1, h2, cv, h3, h4⟩ := hx k h
  have h5 := h4
  obtain ⟨q, c, rfl, _⟩ := h4
  exact ⟨q, _, c, h1, h2, h3, h5⟩
set_option maxRecDepth 100000 in
set_option maxHeartbeats 4000000 in
theorem eq_protos (l m : List Pr) (v u : Value) (w : World) (hl : ProtosAt w v l) (hm : ProtosAt w u m) (n1 : l.length ≤ 9223372036854775807) (n2 : m.length ≤ 9223372036854775807) (p1 : ∀ f ∈ l, PrL f) (p2 : ∀ f ∈ m, PrL f) :
    Calls Tryd.prog 20 #[v, u, .func (.func 21) #[] #[]] w fun e w' => e = .returned (.bool (decide (l = m))) ∧ Ext w w' := by
  obtain ⟨q, c, rfl, hx⟩ := hl
  obtain ⟨q', c', rfl, hy⟩ := hm
  have HX := Lib.hid hx
  have HY := Lib.hid hy
  clear hx hy
  by_cases hlen : l.length = m.length
  · obtain ⟨n, hn⟩ : ∃ n, l.length = n := ⟨_, rfl⟩
    have hn' : m.length = n := by omega
    have HN := Lib.hid hn
    have HM := Lib.hid hn'
    rw [hn] at n1
    rw [hn, hn']
    clear n2 hlen hn hn'
    have HT : Hid (l.take 0 = m.take 0) := Lib.hid rfl
    go_enter Tryd.func20, Tryd.ntmps20
    go_wp2
    go_loopw [17] (fun i wr => ∃ k : Nat, k ≤ n ∧ i = .int .i64 k ∧ Hid (l.take k = m.take k) ∧ Ext w wr) (fun i _ => n - (intOf i).toNat)
    case atStart => exact ⟨0, Nat.zero_le _, rfl, HT, Ext.refl w⟩
    case round =>
      obtain ⟨k, hk, rfl, HK, he⟩ := hrel
      have HE := Lib.hid he
      clear he
      by_cases hlt : k < n
      · have kl : k < l.length := by rw [HN.out]; exact hlt
        have km : k < m.length := by rw [HM.out]; exact hlt
        obtain ⟨b, o, rfl, hx⟩ := HX.out (by omega)
        obtain ⟨b', o', rfl, hy⟩ := HY.out (by omega)
        obtain ⟨qx, mx, ccx, cx0, cx1, cx2, cx3⟩ := pr_at hx k kl
        obtain ⟨qy, my, ccy, cy0, cy1, cy2, cy3⟩ := pr_at hy k km
        replace cx0 := HE.out.cell cx0
        replace cx1 := HE.out.cell cx1
        replace cx2 := HE.out.cell cx2
        replace cy0 := HE.out.cell cy0
        replace cy1 := HE.out.cell cy1
        replace cy2 := HE.out.cell cy2
        replace cx3 := cx3.ext HE.out
        replace cy3 := cy3.ext HE.out
        have lx := cell_lt cx0
        have ly := cell_lt cy0
        simp only at lx ly
        have HS := Lib.hid (take_eq_succ HK.out kl km)
        have HD := Lib.hid (ne_of_at (l := l) (m := m) k kl km)
        have px := p1 _ (List.getElem_mem kl)
        have py := p2 _ (List.getElem_mem km)
        obtain ⟨x, hx'⟩ : ∃ x, l[k] = x := ⟨_, rfl⟩
        obtain ⟨y, hy'⟩ : ∃ y, m[k] = y := ⟨_, rfl⟩
        rw [hx'] at cx0 cx1 cx3 HS HD px
        rw [hy'] at cy0 cy1 cy3 HS HD py
        have cE := fun W (hE : Ext wr W) => one_same x y _ _ W (cx3.ext hE) (cy3.ext hE) px py
        clear hx hy hx' hy' kl km cx3 cy3
        have k0 : (0 : Int) ≤ (k : Int) := by omega
        have k1 : (k : Int) < (n : Int) := by omega
        cases hb : decide (x = y)
        · have hd := Lib.hid (decide_eq_false (HD.out (by simpa using hb)))
          rw [hb] at cE
          clear hb
          go_wp2_with fail
          refine (cE _ (((Ext.refl wr).alloc _).alloc _)).mono ?_
          rintro e w' ⟨rfl, e1⟩
          have E1 := Lib.hid e1
          clear e1 cx0 cx1 cx2 cy0 cy1 cy2
          go_wp2_with fail
          go_ret
          exact ⟨ret_of (bool_eq hd.out.symm), HE.out.trans ((((Ext.refl wr).alloc _).alloc _).trans E1.out)⟩
        · have HZ := Lib.hid (HS.out (by simpa using hb))
          rw [hb] at cE
          clear hb
          go_wp2_with fail
          refine (cE _ (((Ext.refl wr).alloc _).alloc _)).mono ?_
          rintro e w' ⟨rfl, e1⟩
          have E1 := Lib.hid e1
          clear e1 cx0 cx1 cx2 cy0 cy1 cy2
          go_wp2_with fail
          go_roundw
          case rel => exact ⟨k + 1, hlt, by go_num, HZ, HE.out.trans ((((Ext.refl wr).alloc _).alloc _).trans E1.out)⟩
          case measure => simp [intOf]; omega
      · obtain rfl : k = n := by omega
        have hd := Lib.hid (decide_eq_true (eq_of_take HK.out HN.out HM.out))
        go_wp2
        go_ret
        exact ⟨ret_of (bool_eq hd.out.symm), HE.out⟩
  · have hd : decide (l = m) = false := decide_eq_false (fun e => hlen (by rw [e]))
    rw [hd]
    clear hd
    have hb : ((l.length : Int) != (m.length : Int)) = true := by simpa using (by omega : ¬ (l.length : Int) = m.length)
    go_enter Tryd.func20, Tryd.ntmps20
    go_wp2
    go_ret
    exact ⟨rfl, Ext.refl w⟩

/-- A program with its numbers. -/
structure Pf where
  ps : List Pr
  is : List Int
  ts : List ByteArray
structure PfAt (w : World) (vp vi vt : Value) (p : Pf) : Prop where
  ps : ProtosAt w vp p.ps
  is : NumsAt' w vi p.is
  ts : TextsAt w vt p.ts
  np : p.ps.length ≤ 9223372036854775807
  ni : p.is.length ≤ 9223372036854775807
  nt : p.ts.length ≤ 9223372036854775807
  pr : ∀ f ∈ p.ps, PrL f
theorem NumsAt'.ext {w w' : World} {v : Value} {l : List Int} (h : NumsAt' w v l) (he : Ext w w') : NumsAt' w' v l := by
  obtain ⟨q, c, rfl, hq⟩ := h
  refine ⟨q, c, rfl, fun hl => ?_⟩
  obtain ⟨b, o, rfl, hx⟩ := hq hl
  exact ⟨b, o, rfl, fun i hi => he.cell (hx i hi)⟩
theorem PfAt.ext {w w' : World} {vp vi vt : Value} {p : Pf} (h : PfAt w vp vi vt p) (he : Ext w w') : PfAt w' vp vi vt p :=
  ⟨h.ps.ext he, h.is.ext he, h.ts.ext he, h.np, h.ni, h.nt, h.pr⟩
def samB (p q : Pf) : Bool := decide (p.ps = q.ps) && (decide (p.is = q.is) && decide (p.ts = q.ts))
theorem samB_self (p : Pf) : samB p p = true := by simp [samB]
set_option maxRecDepth 100000 in
set_option maxHeartbeats 4000000 in
theorem same_any (p q : Pf) (vp vi vt up ui ut : Value) (w : World) (hp : PfAt w vp vi vt p) (hq : PfAt w up ui ut q) :
    Calls Tryd.prog 12 #[.agg #[vp, vi, vt], .agg #[up, ui, ut]] w fun e w' => e = .returned (.bool (samB p q)) ∧ Ext w w' := by
  have c1 := fun W (hE : Ext w W) => eq_protos p.ps q.ps vp up W (hp.ps.ext hE) (hq.ps.ext hE) hp.np hq.np hp.pr hq.pr
  have c2 := fun W (hE : Ext w W) => eq_nums p.is q.is vi ui W (hp.is.ext hE) (hq.is.ext hE) hp.ni hq.ni
  have c3 := fun W (hE : Ext w W) => eq_texts p.ts q.ts vt ut W (hp.ts.ext hE) (hq.ts.ext hE) hp.nt hq.nt
  obtain ⟨b, hb⟩ : ∃ b, samB p q = b := ⟨_, rfl⟩
  have HB := Lib.hid hb
  rw [hb]
  unfold samB at HB
  clear hb hp hq
  generalize decide (p.ps = q.ps) = d1 at HB c1
  generalize decide (p.is = q.is) = d2 at HB c2
  generalize decide (p.ts = q.ts) = d3 at HB c3
  go_enter Tryd.func12, Tryd.ntmps12
  go_wp2_with fail
  refine (c1 _ (((Ext.refl w).alloc _).alloc _)).mono ?_
  rintro e w1 ⟨rfl, e1⟩
  have K1 := Lib.hid ((((Ext.refl w).alloc (.cells #[vp, vi, vt] 26)).alloc (.cells #[up, ui, ut] 26)).trans e1)
  have hb1 : Blk w1 w.heap.size 26 #[vp, vi, vt] := ((Blk.new w _ _).alloc _).ext e1
  have hb2 : Blk w1 (w.heap.size + 1) 26 #[up, ui, ut] := Blk.ext (new_at (size_alloc _ _).symm _) e1
  have x1 := hb1.cell 1
  have x2 := hb1.cell 2
  have y1 := hb2.cell 1
  have y2 := hb2.cell 2
  simp only [List.getElem?_toArray, List.getElem?_cons_zero, List.getElem?_cons_succ] at x1 x2 y1 y2
  clear hb1 hb2 e1
  cases d1
  · go_wp2_with fail
    go_ret
    exact ⟨ret_of (bool_eq HB.out), K1.out⟩
  go_wp2_with fail
  refine (c2 _ K1.out).mono ?_
  rintro e w2 ⟨rfl, e2⟩
  have K2 := Lib.hid (K1.out.trans e2)
  replace x2 := e2.cell x2
  replace y2 := e2.cell y2
  clear e2 x1 y1
  cases d2
  · go_wp2_with fail
    go_ret
    exact ⟨ret_of (bool_eq HB.out), K2.out⟩
  go_wp2_with fail
  refine (c3 _ K2.out).mono ?_
  rintro e w3 ⟨rfl, e3⟩
  have K3 := Lib.hid (K2.out.trans e3)
  clear e3 x2 y2
  go_wp2_with fail
  go_ret
  exact ⟨ret_of (bool_eq HB.out), K3.out⟩
end Go.Proofs.YtifabbjgbfpfbaaDoor
