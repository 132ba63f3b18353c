/- bridge.Value: what it tells, and how the heap is. -/
import Derived.Test.YtlfihdcgbhdajaaGreatDoorYB7
namespace Go.Proofs.YtlfihdcgbhdajaaGreatDoor
open Go.RowKit
set_option linter.unusedVariables false
set_option linter.unusedSimpArgs false

def valueR (H : Hp) (x : Rep) : Br3 := if repOkB x = true then (if (valP H x).1 = sNone then valP H x else ((valP H x).1, Vl.zero, (valP H x).2.2)) else (sReply, Vl.zero, H)
def ValueE (w : World) (g : Nat) (tv : Value) (rs : List (Nat × Nat)) (r : Br3) (e : Ending) (w' : World) : Prop := e = .returned (.tuple #[r.2.1.v, .string r.1]) ∧ HStep w g tv rs w' r.2.2
set_option maxRecDepth 100000 in
set_option maxHeartbeats 4000000 in
theorem value_any (w : World) (g : Nat) (tv : Value) (rs : List (Nat × Nat)) (H : Hp) (h : HeapIn w g tv rs H) (hlen : H.tabs.length ≤ 900000000) (hpw : Pow w) (x : Rep) (q : Option Addr) (c D : Nat) (hv : ListAt (fun b => b < w.heap.size ∧ ¬ Foot g tv rs b) w D (.slice q x.l.length c) x.l) (h6 : i64R x) :
    Calls Tryz.prog 8 #[.pointer (some ⟨g, 0, none⟩), .agg #[.int .i64 x.k, .int .i64 x.n, .string x.s, .slice q x.l.length c]] w (ValueE w g tv rs (valueR H x)) := by
  have hmf : ∀ (fn : Fn) (first cap : Array Value) (w : World), (Instr.makeFunc fn first cap).run Tryz.prog w = .ok (.func fn first cap) w := fun _ _ _ _ => rfl
  have hmm := @run_makeMap Tryz.prog
  have HE := Lib.hid (((((Ext.refl w).alloc (.cells #[.pointer (some ⟨g, 0, none⟩)] 28)).alloc (.cells #[.int .i64 x.k, .int .i64 x.n, .string x.s, .slice q x.l.length c] 25)).alloc (.cells #[.int .i64 0, .int .i64 0, .string ⟨#[]⟩] 34)).alloc (.cells #[.string ⟨#[]⟩] 9))
  have B0 : Hid (Blk ((((w.alloc (.cells #[.pointer (some ⟨g, 0, none⟩)] 28)).alloc (.cells #[.int .i64 x.k, .int .i64 x.n, .string x.s, .slice q x.l.length c] 25)).alloc (.cells #[.int .i64 0, .int .i64 0, .string ⟨#[]⟩] 34)).alloc (.cells #[.string ⟨#[]⟩] 9)) w.heap.size 28 #[.pointer (some ⟨g, 0, none⟩)]) := Lib.hid ((((Blk.new w _ _).alloc _).alloc _).alloc _)
  have B1 : Hid (Blk ((((w.alloc (.cells #[.pointer (some ⟨g, 0, none⟩)] 28)).alloc (.cells #[.int .i64 x.k, .int .i64 x.n, .string x.s, .slice q x.l.length c] 25)).alloc (.cells #[.int .i64 0, .int .i64 0, .string ⟨#[]⟩] 34)).alloc (.cells #[.string ⟨#[]⟩] 9)) (w.heap.size + 1) 25 #[.int .i64 x.k, .int .i64 x.n, .string x.s, .slice q x.l.length c]) := Lib.hid (by
    have := Blk.new (w.alloc (.cells #[.pointer (some ⟨g, 0, none⟩)] 28)) 25 #[.int .i64 x.k, .int .i64 x.n, .string x.s, .slice q x.l.length c]
    rw [size_alloc] at this
    exact (this.alloc _).alloc _)
  have B2 : Hid (Blk ((((w.alloc (.cells #[.pointer (some ⟨g, 0, none⟩)] 28)).alloc (.cells #[.int .i64 x.k, .int .i64 x.n, .string x.s, .slice q x.l.length c] 25)).alloc (.cells #[.int .i64 0, .int .i64 0, .string ⟨#[]⟩] 34)).alloc (.cells #[.string ⟨#[]⟩] 9)) (w.heap.size + 1 + 1) 34 #[.int .i64 0, .int .i64 0, .string ⟨#[]⟩]) := Lib.hid (by
    have := Blk.new ((w.alloc (.cells #[.pointer (some ⟨g, 0, none⟩)] 28)).alloc (.cells #[.int .i64 x.k, .int .i64 x.n, .string x.s, .slice q x.l.length c] 25)) 34 #[.int .i64 0, .int .i64 0, .string ⟨#[]⟩]
    rw [size_alloc, size_alloc] at this
    exact this.alloc _)
  have B3 : Hid (Blk ((((w.alloc (.cells #[.pointer (some ⟨g, 0, none⟩)] 28)).alloc (.cells #[.int .i64 x.k, .int .i64 x.n, .string x.s, .slice q x.l.length c] 25)).alloc (.cells #[.int .i64 0, .int .i64 0, .string ⟨#[]⟩] 34)).alloc (.cells #[.string ⟨#[]⟩] 9)) (w.heap.size + 1 + 1 + 1) 9 #[.string ⟨#[]⟩]) := Lib.hid (by
    have := Blk.new (((w.alloc (.cells #[.pointer (some ⟨g, 0, none⟩)] 28)).alloc (.cells #[.int .i64 x.k, .int .i64 x.n, .string x.s, .slice q x.l.length c] 25)).alloc (.cells #[.int .i64 0, .int .i64 0, .string ⟨#[]⟩] 34)) 9 #[.string ⟨#[]⟩]
    rwa [size_alloc, size_alloc, size_alloc] at this)
  have HH := Lib.hid h
  have HP := Lib.hid hpw
  have HV := Lib.hid hv
  have H6 := Lib.hid h6
  have HN : Hid (∀ k, w.heap.size ≤ k → ¬ Foot g tv rs k) := Lib.hid (fun k hk hx => by have := h.low hx; omega)
  have HM := Lib.hid hlen
  have d0 := B0.out.cell 0
  simp only [List.getElem?_toArray, List.getElem?_cons_zero, List.getElem?_cons_succ] at d0
  obtain ⟨r, hr⟩ : ∃ r, valueR H x = r := ⟨_, rfl⟩
  rw [hr]
  have HR := Lib.hid hr
  clear h hpw hv h6 hlen hr
  go_enter_defers Tryz.func8, Tryz.ntmps8
  go_wp2_with fail
  generalize ((((w.alloc (.cells #[.pointer (some ⟨g, 0, none⟩)] 28)).alloc (.cells #[.int .i64 x.k, .int .i64 x.n, .string x.s, .slice q x.l.length c] 25)).alloc (.cells #[.int .i64 0, .int .i64 0, .string ⟨#[]⟩] 34)).alloc (.cells #[.string ⟨#[]⟩] 9)) = W at *
  refine wp_region_noPanic ?_
  refine wp_region_ext (by kernel_rfl) (by kernel_rfl) ?_
  repeat (
    first
      | go_big_quiet_skip
      | (go_big_quiet_want
         go_big_quiet_op
         first
           | go_big_quiet_on
           | (apply Exists.intro
              refine ⟨fun wq hq => ?_, ?_⟩
              focus (
                have d0 := hq.cell d0
                first
                  | (go_at_call 22; exact Calls.ext_of hq (text_any _ wq); done)
                  | (go_at_call 16; exact Calls.ext_of hq (len_call g tv rs H wq (HH.out.ext (HE.out.trans hq)) (by have := HM.out; omega)); done)
                  | (go_simp; exact rfl))
              go_big_quiet_on)))
  refine wpQuiet_nil ?_
  intro we hwe
  refine NoPanic.normal ?_
  have E1 := Lib.hid (HE.out.trans hwe)
  have C0 := Lib.hid (B0.out.ext hwe)
  have C1 := Lib.hid (B1.out.ext hwe)
  have C2 := Lib.hid (B2.out.ext hwe)
  have C3 := Lib.hid (B3.out.ext hwe)
  clear hwe d0 B0 B1 B2 B3 HE
  have x0 := C1.out.cell 0
  have x1 := C1.out.cell 1
  have x2 := C1.out.cell 2
  have x3 := C1.out.cell 3
  simp only [List.getElem?_toArray, List.getElem?_cons_zero, List.getElem?_cons_succ] at x0 x1 x2 x3
  go_wp2_with fail
  refine (chkR_any we x q c D ((HV.out.ext E1.out).keep (fun _ _ _ _ hc => hc) (fun b hlt (hb : b < w.heap.size ∧ _) => hlt)) H6.out (HP.out.ext E1.out)).mono ?_
  rintro e w2 ⟨rfl, e2⟩
  have E2 := Lib.hid (E1.out.trans e2)
  have D0 := Lib.hid (C0.out.ext e2)
  have D1 := Lib.hid (C1.out.ext e2)
  have D2 := Lib.hid (C2.out.ext e2)
  have D3 := Lib.hid (C3.out.ext e2)
  clear e2 x0 x1 x2 x3 C0 C1 C2 C3 E1
  cases hok : repOkB x with
  | false =>
    have RE : Hid (r = (sReply, Vl.zero, H)) := Lib.hid (by rw [← HR.out]; unfold valueR; rw [hok]; rfl)
    simp only [Bool.false_eq_true, if_false]
    obtain ⟨z0, z1, z2, y0, y1, y2⟩ := three D2.out
    have z3 := D3.out.cell 0
    have y3 := D3.out.frozen 0
    have l2 := D2.out.lt
    have l3 := D3.out.lt
    simp only [List.getElem?_toArray, List.getElem?_cons_zero, List.getElem?_cons_succ] at z3
    clear hok
    go_wp2_with fail
    refine vface_end _ (w.heap.size + 1 + 1) (w.heap.size + 1 + 1 + 1) Vl.zero sReply ((put3 D2.out _ _ _).far (p := ⟨w.heap.size + 1 + 1 + 1, 0, none⟩) (by show ¬ w.heap.size + 1 + 1 = w.heap.size + 1 + 1 + 1; omega) _) ?_ _ ?_ _ _ _ _ _ _ _ _ _ _ _ _ _ _ _ _ _ _ _ _ _ _ _ _ _ _ _ _ _ _ _ _ _ _ _ _ _ _ _
    · have := ((D3.out.far (p := ⟨w.heap.size + 1 + 1, 0, none⟩) (by show ¬ w.heap.size + 1 + 1 + 1 = w.heap.size + 1 + 1; omega) (.int .i64 0)).far (p := ⟨w.heap.size + 1 + 1, 1, none⟩) (by show ¬ w.heap.size + 1 + 1 + 1 = w.heap.size + 1 + 1; omega) (.int .i64 0)).far (p := ⟨w.heap.size + 1 + 1, 2, none⟩) (by show ¬ w.heap.size + 1 + 1 + 1 = w.heap.size + 1 + 1; omega) (.string ⟨#[]⟩)
      have t2 := this.set_ 0 (.string sReply)
      simp only [List.setIfInBounds_toArray, List.set_cons_zero] at t2
      exact t2
    · rw [RE.out]
      exact ⟨rfl, _, _, ((HS.of_ext HH.out E2.out).set3 (k := w.heap.size + 1 + 1) (by omega) (HN.out _ (by omega)) _ _ _).setCell (p := ⟨w.heap.size + 1 + 1 + 1, 0, none⟩) (by show w.heap.size ≤ w.heap.size + 1 + 1 + 1; omega) (HN.out _ (by show w.heap.size ≤ w.heap.size + 1 + 1 + 1; omega)) _⟩
  | true =>
    simp only [if_true]
    have HOK := Lib.hid hok
    clear hok
    go_upto_region 11 with fail
    have e3 := ((Ext.refl w2).alloc (.cells #[.func (.func 26) #[] #[.pointer (some ⟨w.heap.size, 0, none⟩)]] 65)).alloc (.cells #[.nilFunc] 66)
    have E3 := Lib.hid (E2.out.trans e3)
    have F0 := Lib.hid (D0.out.ext e3)
    have F1 := Lib.hid (D1.out.ext e3)
    have F2 := Lib.hid (D2.out.ext e3)
    have F3 := Lib.hid (D3.out.ext e3)
    have F4 := Lib.hid ((Blk.new w2 65 #[.func (.func 26) #[] #[.pointer (some ⟨w.heap.size, 0, none⟩)]]).alloc (.cells #[.nilFunc] 66))
    have F5 := Lib.hid (Blk.new (w2.alloc (.cells #[.func (.func 26) #[] #[.pointer (some ⟨w.heap.size, 0, none⟩)]] 65)) 66 #[.nilFunc])
    rw [size_alloc] at F5
    have hsb := E2.out.le
    have hb3 := D3.out.lt
    obtain ⟨sb, hsbe⟩ : ∃ sb, w2.heap.size = sb := ⟨_, rfl⟩
    rw [hsbe] at F4 F5 hsb hb3 ⊢
    have hlow2 : sb + 1 < ((w2.alloc (.cells #[.func (.func 26) #[] #[.pointer (some ⟨w.heap.size, 0, none⟩)]] 65)).alloc (.cells #[.nilFunc] 66)).heap.size := F5.out.lt
    clear e3 D0 D1 D2 D3 E2
    generalize (w2.alloc (.cells #[.func (.func 26) #[] #[.pointer (some ⟨w.heap.size, 0, none⟩)]] 65)).alloc (.cells #[.nilFunc] 66) = wc at *
    have i0 : (Instr.mapUpdate 70 (.map (some wc.heap.size)) (.int .i64 0) (.func (.func 32) #[] #[])).run Tryz.prog (wc.alloc (.map #[] 0)) = .ok () (wc.alloc (.map (ents [(.int .i64 0, .func (.func 32) #[] #[])] 0).toArray 1)) :=
      run_insert_lit Tryz.underlying70 Tryz.underlying22 rfl [] 0 _ _ rfl rfl wc
    have i1 : (Instr.mapUpdate 70 (.map (some wc.heap.size)) (.int .i64 3) (.func (.func 33) #[] #[])).run Tryz.prog (wc.alloc (.map (ents [(.int .i64 0, .func (.func 32) #[] #[])] 0).toArray 1)) = .ok () (wc.alloc (.map (ents [(.int .i64 0, .func (.func 32) #[] #[]), (.int .i64 3, .func (.func 33) #[] #[])] 0).toArray 2)) :=
      run_insert_lit Tryz.underlying70 Tryz.underlying22 rfl [(.int .i64 0, .func (.func 32) #[] #[])] 1 _ _ rfl rfl wc
    have i2 : (Instr.mapUpdate 70 (.map (some wc.heap.size)) (.int .i64 4) (.func (.func 34) #[] #[.pointer (some ⟨w.heap.size, 0, none⟩)])).run Tryz.prog (wc.alloc (.map (ents [(.int .i64 0, .func (.func 32) #[] #[]), (.int .i64 3, .func (.func 33) #[] #[])] 0).toArray 2)) = .ok () (wc.alloc (.map (ents [(.int .i64 0, .func (.func 32) #[] #[]), (.int .i64 3, .func (.func 33) #[] #[]), (.int .i64 4, .func (.func 34) #[] #[.pointer (some ⟨w.heap.size, 0, none⟩)])] 0).toArray 3)) :=
      run_insert_lit Tryz.underlying70 Tryz.underlying22 rfl [(.int .i64 0, .func (.func 32) #[] #[]), (.int .i64 3, .func (.func 33) #[] #[])] 2 _ _ rfl rfl wc
    go_wp2_with fail
    refine (under_any sOk w.heap.size sb _).mono ?_
    rintro e w4 ⟨rfl, e4⟩
    simp only [size_alloc] at e4 ⊢
    have HM4 : Hid (w4.heap[wc.heap.size]? = some (.map (ents [(.int .i64 0, .func (.func 32) #[] #[]), (.int .i64 3, .func (.func 33) #[] #[]), (.int .i64 4, .func (.func 34) #[] #[.pointer (some ⟨w.heap.size, 0, none⟩)])] 0).toArray 3)) := Lib.hid (by
      rw [e4]
      exact (((Ext.refl _).alloc _).block _ (by rw [size_alloc]; omega)).trans (heap_alloc_new wc _))
    have E4 : Hid (Ext wc w4) := Lib.hid (by rw [e4]; exact ((Ext.refl _).alloc _).alloc _)
    have O1 : Hid (Blk w4 (wc.heap.size + 1) 9 #[.string sOk]) := Lib.hid (by
      have := Blk.new (wc.alloc (.map (ents [(.int .i64 0, .func (.func 32) #[] #[]), (.int .i64 3, .func (.func 33) #[] #[]), (.int .i64 4, .func (.func 34) #[] #[.pointer (some ⟨w.heap.size, 0, none⟩)])] 0).toArray 3)) 9 #[.string sOk]
      rw [size_alloc] at this
      rw [e4]; exact this)
    obtain ⟨M, hM⟩ : ∃ M, wc.heap.size = M := ⟨_, rfl⟩
    rw [hM] at HM4 O1 hlow2 ⊢
    clear i0 i1 i2 e4
    obtain ⟨w5, h5⟩ : ∃ w5, putObj w4 M (.map (ents [(.int .i64 0, .func (.func 32) #[] #[]), (.int .i64 3, .func (.func 33) #[] #[]), (.int .i64 4, .func (.func 34) #[] #[.pointer (some ⟨w.heap.size, 0, none⟩)]), (.int .i64 1, .func (.func 29) #[] #[.pointer (some ⟨w.heap.size, 0, none⟩), .pointer (some ⟨sb, 0, none⟩), .pointer (some ⟨M + 1, 0, none⟩)])] 0).toArray 4) = w5 := ⟨_, rfl⟩
    have i3 : (Instr.mapUpdate 70 (.map (some M)) (.int .i64 1) (.func (.func 29) #[] #[.pointer (some ⟨w.heap.size, 0, none⟩), .pointer (some ⟨sb, 0, none⟩), .pointer (some ⟨M + 1, 0, none⟩)])).run Tryz.prog w4 = .ok () w5 := by
      rw [← h5]
      exact run_insert_at Tryz.underlying70 Tryz.underlying22 rfl [(.int .i64 0, .func (.func 32) #[] #[]), (.int .i64 3, .func (.func 33) #[] #[]), (.int .i64 4, .func (.func 34) #[] #[.pointer (some ⟨w.heap.size, 0, none⟩)])] 3 _ _ rfl rfl HM4.out
    have HM5 : Hid (w5.heap[M]? = some (.map (ents [(.int .i64 0, .func (.func 32) #[] #[]), (.int .i64 3, .func (.func 33) #[] #[]), (.int .i64 4, .func (.func 34) #[] #[.pointer (some ⟨w.heap.size, 0, none⟩)]), (.int .i64 1, .func (.func 29) #[] #[.pointer (some ⟨w.heap.size, 0, none⟩), .pointer (some ⟨sb, 0, none⟩), .pointer (some ⟨M + 1, 0, none⟩)])] 0).toArray 4)) := Lib.hid (by rw [← h5]; exact putObj_at (Array.getElem?_eq_some_iff.1 HM4.out).1 _)
    have S5 : Hid (Only M w4 w5) := Lib.hid (by rw [← h5]; exact putObj_only _ _ _)
    clear h5 HM4
    go_wp2_with fail
    refine (under_any sErr w.heap.size sb _).mono ?_
    rintro e w6 ⟨rfl, e6⟩
    have E6 : Hid (Ext w5 w6) := Lib.hid (by rw [e6]; exact (Ext.refl _).alloc _)
    have O2 : Hid (Blk w6 w5.heap.size 9 #[.string sErr]) := Lib.hid (by rw [e6]; exact Blk.new _ _ _)
    have ho1 := O1.out.lt
    have hs5 := S5.out.size
    have O1' : Hid (Blk w6 (M + 1) 9 #[.string sOk]) := Lib.hid (Blk.ext (show Blk w5 (M + 1) 9 #[.string sOk] from (S5.out.block (M + 1) O1.out.lt (fun e => by have := Option.some.inj e; omega)).trans O1.out) E6.out)
    obtain ⟨o2, ho2⟩ : ∃ o2, w5.heap.size = o2 := ⟨_, rfl⟩
    have HM6 : Hid (w6.heap[M]? = some (.map (ents [(.int .i64 0, .func (.func 32) #[] #[]), (.int .i64 3, .func (.func 33) #[] #[]), (.int .i64 4, .func (.func 34) #[] #[.pointer (some ⟨w.heap.size, 0, none⟩)]), (.int .i64 1, .func (.func 29) #[] #[.pointer (some ⟨w.heap.size, 0, none⟩), .pointer (some ⟨sb, 0, none⟩), .pointer (some ⟨M + 1, 0, none⟩)])] 0).toArray 4)) := Lib.hid ((E6.out.block M (by omega)).trans HM5.out)
    have EO : Hid (Only M wc w6) := Lib.hid (((Only.of_ext E4.out).trans S5.out).ext E6.out)
    rw [ho2] at O2 hs5 ⊢
    have hlt6 := O2.out.lt
    clear i3 e6 HM5 E6 E4 S5 O1 ho2
    obtain ⟨w7, h7⟩ : ∃ w7, putObj w6 M (.map (ents [(.int .i64 0, .func (.func 32) #[] #[]), (.int .i64 3, .func (.func 33) #[] #[]), (.int .i64 4, .func (.func 34) #[] #[.pointer (some ⟨w.heap.size, 0, none⟩)]), (.int .i64 1, .func (.func 29) #[] #[.pointer (some ⟨w.heap.size, 0, none⟩), .pointer (some ⟨sb, 0, none⟩), .pointer (some ⟨M + 1, 0, none⟩)]), (.int .i64 2, .func (.func 29) #[] #[.pointer (some ⟨w.heap.size, 0, none⟩), .pointer (some ⟨sb, 0, none⟩), .pointer (some ⟨o2, 0, none⟩)])] 0).toArray 5) = w7 := ⟨_, rfl⟩
    have i4 : (Instr.mapUpdate 70 (.map (some M)) (.int .i64 2) (.func (.func 29) #[] #[.pointer (some ⟨w.heap.size, 0, none⟩), .pointer (some ⟨sb, 0, none⟩), .pointer (some ⟨o2, 0, none⟩)])).run Tryz.prog w6 = .ok () w7 := by
      rw [← h7]
      exact run_insert_at Tryz.underlying70 Tryz.underlying22 rfl [(.int .i64 0, .func (.func 32) #[] #[]), (.int .i64 3, .func (.func 33) #[] #[]), (.int .i64 4, .func (.func 34) #[] #[.pointer (some ⟨w.heap.size, 0, none⟩)]), (.int .i64 1, .func (.func 29) #[] #[.pointer (some ⟨w.heap.size, 0, none⟩), .pointer (some ⟨sb, 0, none⟩), .pointer (some ⟨M + 1, 0, none⟩)])] 4 _ _ rfl rfl HM6.out
    have HM7 : Hid (w7.heap[M]? = some (.map (ents [(.int .i64 0, .func (.func 32) #[] #[]), (.int .i64 3, .func (.func 33) #[] #[]), (.int .i64 4, .func (.func 34) #[] #[.pointer (some ⟨w.heap.size, 0, none⟩)]), (.int .i64 1, .func (.func 29) #[] #[.pointer (some ⟨w.heap.size, 0, none⟩), .pointer (some ⟨sb, 0, none⟩), .pointer (some ⟨M + 1, 0, none⟩)]), (.int .i64 2, .func (.func 29) #[] #[.pointer (some ⟨w.heap.size, 0, none⟩), .pointer (some ⟨sb, 0, none⟩), .pointer (some ⟨o2, 0, none⟩)])] 0).toArray 5)) := Lib.hid (by rw [← h7]; exact putObj_at (Array.getElem?_eq_some_iff.1 HM6.out).1 _)
    have S7 : Hid (Only M w6 w7) := Lib.hid (by rw [← h7]; exact putObj_only _ _ _)
    obtain ⟨w8, h8⟩ : ∃ w8, putObj w7 M (.map (ents (kindsV w.heap.size sb (sb + 1) (M + 1) o2) 0).toArray 6) = w8 := ⟨_, rfl⟩
    have i5 : (Instr.mapUpdate 70 (.map (some M)) (.int .i64 5) (.func (.func 35) #[] #[.pointer (some ⟨w.heap.size, 0, none⟩), .pointer (some ⟨sb, 0, none⟩), .pointer (some ⟨(sb + 1), 0, none⟩)])).run Tryz.prog w7 = .ok () w8 := by
      rw [← h8]
      exact run_insert_at Tryz.underlying70 Tryz.underlying22 rfl [(.int .i64 0, .func (.func 32) #[] #[]), (.int .i64 3, .func (.func 33) #[] #[]), (.int .i64 4, .func (.func 34) #[] #[.pointer (some ⟨w.heap.size, 0, none⟩)]), (.int .i64 1, .func (.func 29) #[] #[.pointer (some ⟨w.heap.size, 0, none⟩), .pointer (some ⟨sb, 0, none⟩), .pointer (some ⟨M + 1, 0, none⟩)]), (.int .i64 2, .func (.func 29) #[] #[.pointer (some ⟨w.heap.size, 0, none⟩), .pointer (some ⟨sb, 0, none⟩), .pointer (some ⟨o2, 0, none⟩)])] 5 _ _ rfl rfl HM7.out
    have HM8 : Hid (w8.heap[M]? = some (.map (ents (kindsV w.heap.size sb (sb + 1) (M + 1) o2) 0).toArray 6)) := Lib.hid (by rw [← h8]; exact putObj_at (Array.getElem?_eq_some_iff.1 HM7.out).1 _)
    have S8 : Hid (Only M w7 w8) := Lib.hid (by rw [← h8]; exact putObj_only _ _ _)
    have T8 : Hid (Only M wc w8) := Lib.hid ((EO.out.trans S7.out).trans S8.out)
    have Q1 : Hid (Blk w8 (M + 1) 9 #[.string sOk]) := Lib.hid ((((S7.out.trans S8.out).block (M + 1) O1'.out.lt (fun e => by have := Option.some.inj e; omega))).trans O1'.out)
    have Q2 : Hid (Blk w8 o2 9 #[.string sErr]) := Lib.hid ((((S7.out.trans S8.out).block o2 O2.out.lt (fun e => by have := Option.some.inj e; omega))).trans O2.out)
    have hM2 : w.heap.size ≤ M := by omega
    clear h7 h8 HM6 HM7 S7 S8 EO O1' O2
    go_upto_region 12 with fail
    have E8 := (Ext.refl w8).alloc (.cells #[.map (some M)] 70)
    have R8 := Lib.hid (T8.out.ext E8)
    have far : ∀ k, k < M → ¬ (some k = some M) := fun k hk e => by have := Option.some.inj e; omega
    have G0 := Lib.hid (show Blk (w8.alloc (.cells #[.map (some M)] 70)) w.heap.size 28 #[.pointer (some ⟨g, 0, none⟩)] from (R8.out.block _ F0.out.lt (far _ (by omega))).trans F0.out)
    have G1 := Lib.hid (show Blk (w8.alloc (.cells #[.map (some M)] 70)) (w.heap.size + 1) 25 #[.int .i64 x.k, .int .i64 x.n, .string x.s, .slice q x.l.length c] from (R8.out.block _ F1.out.lt (far _ (by omega))).trans F1.out)
    have G2 := Lib.hid (show Blk (w8.alloc (.cells #[.map (some M)] 70)) (w.heap.size + 1 + 1) 34 #[.int .i64 0, .int .i64 0, .string ⟨#[]⟩] from (R8.out.block _ F2.out.lt (far _ (by omega))).trans F2.out)
    have G3 := Lib.hid (show Blk (w8.alloc (.cells #[.map (some M)] 70)) (w.heap.size + 1 + 1 + 1) 9 #[.string ⟨#[]⟩] from (R8.out.block _ F3.out.lt (far _ (by omega))).trans F3.out)
    have G4 := Lib.hid (show Blk (w8.alloc (.cells #[.map (some M)] 70)) sb 65 #[.func (.func 26) #[] #[.pointer (some ⟨w.heap.size, 0, none⟩)]] from (R8.out.block _ F4.out.lt (far _ (by omega))).trans F4.out)
    have G5 := Lib.hid (show Blk (w8.alloc (.cells #[.map (some M)] 70)) (sb + 1) 66 #[.nilFunc] from (R8.out.block _ F5.out.lt (far _ (by omega))).trans F5.out)
    have G6 := Lib.hid (Blk.new w8 70 #[.map (some M)])
    have G7 := Lib.hid (Q1.out.ext E8)
    have G8 := Lib.hid (Q2.out.ext E8)
    have G9 := Lib.hid ((E8.block M (Array.getElem?_eq_some_iff.1 HM8.out).1).trans HM8.out)
    have U8 : Hid (Ext w (w8.alloc (.cells #[.map (some M)] 70))) := Lib.hid (R8.out.to_ext E3.out hM2)
    have hkb : o2 < w8.heap.size := Q2.out.lt
    have hmb : M + 1 < w8.heap.size := Q1.out.lt
    obtain ⟨kb, hke⟩ : ∃ kb, w8.heap.size = kb := ⟨_, rfl⟩
    rw [hke] at G6 hkb hmb ⊢
    clear E8 far R8 T8 Q1 Q2 HM8 F0 F1 F2 F3 F4 F5 E3 i4 i5
    generalize w8.alloc (.cells #[.map (some M)] 70) = wa at *
    have c5 := G5.out.cell 0
    have f5 := G5.out.frozen 0
    have x0 := G1.out.cell 0
    have x1 := G1.out.cell 1
    have x2 := G1.out.cell 2
    have x3 := G1.out.cell 3
    have l5 := G5.out.lt
    have ne1 : ¬ sb + 1 = w.heap.size + 1 := by omega
    have ne2 : ¬ w.heap.size + 1 = sb + 1 := by omega
    have ne3 : ¬ sb = w.heap.size := by omega
    have ne4 : ¬ w.heap.size = sb := by omega
    simp only [List.getElem?_toArray, List.getElem?_cons_zero, List.getElem?_cons_succ] at c5 x0 x1 x2 x3
    go_wp2_with fail
    have BED : Hid (Bed (wa.setCell ⟨sb + 1, 0, none⟩ (.func (.func 36) #[] #[.pointer (some ⟨kb, 0, none⟩)])) g tv rs w.heap.size sb (sb + 1) kb M (M + 1) o2) := Lib.hid
      ⟨G0.out.far (by show ¬ _ = sb + 1; omega) _, G4.out.far (by show ¬ sb = sb + 1; omega) _, by simpa using G5.out.set_ 0 (.func (.func 36) #[] #[.pointer (some ⟨kb, 0, none⟩)]), G6.out.far (by show ¬ kb = sb + 1; omega) _,
       (Below.heap_setCell _ _ _ M (by show M ≠ sb + 1; omega)).trans G9.out, G7.out.far (by show ¬ M + 1 = sb + 1; omega) _, G8.out.far (by show ¬ o2 = sb + 1; omega) _, fun y hy => HN.out y (by
         simp only [List.mem_cons, List.not_mem_nil, or_false] at hy
         omega)⟩
    have U9 := Lib.hid (U8.out.setCell (p := ⟨sb + 1, 0, none⟩) (by show w.heap.size ≤ sb + 1; omega) (.func (.func 36) #[] #[.pointer (some ⟨kb, 0, none⟩)]))
    have K2 := Lib.hid (G2.out.far (p := ⟨sb + 1, 0, none⟩) (by show ¬ w.heap.size + 1 + 1 = sb + 1; omega) (.func (.func 36) #[] #[.pointer (some ⟨kb, 0, none⟩)]))
    have K3 := Lib.hid (G3.out.far (p := ⟨sb + 1, 0, none⟩) (by show ¬ w.heap.size + 1 + 1 + 1 = sb + 1; omega) (.func (.func 36) #[] #[.pointer (some ⟨kb, 0, none⟩)]))
    have hok := (repOk_iff x).1 HOK.out
    have HR2 : Hid (r = if (valP H x).1 = sNone then valP H x else ((valP H x).1, Vl.zero, (valP H x).2.2)) := Lib.hid (by rw [← HR.out]; unfold valueR; rw [if_pos HOK.out])
    clear c5 f5 x0 x1 x2 x3 l5 ne1 ne2 ne3 ne4 G0 G1 G2 G3 G4 G5 G6 G7 G8 G9 U8
    generalize wa.setCell ⟨sb + 1, 0, none⟩ (.func (.func 36) #[] #[.pointer (some ⟨kb, 0, none⟩)]) = wb at *
    refine (vay_all 100 wb g tv rs H (HH.out.ext U9.out) w.heap.size sb (sb + 1) kb M (M + 1) o2 BED.out x q c D (by have := HM.out; have := hok.2.2; omega) hok.2.1 hok.1 H6.out ((HV.out.ext U9.out).keep (fun _ _ _ _ hc => hc) (fun b hlt (hb : b < w.heap.size ∧ ¬ Foot g tv rs b) => (⟨hlt, hb.2⟩ : b < _ ∧ ¬ Foot g tv rs b)))).mono ?_
    intro e w9 hE
    obtain ⟨p, hp⟩ : ∃ p, valP H x = p := ⟨_, rfl⟩
    rw [hp] at hE HR2
    clear hp hok
    obtain ⟨pw, pv, pH⟩ := p
    obtain ⟨pk, pn, ps⟩ := pv
    obtain ⟨tv9, rs9, s9⟩ := hE.step
    have N2 := Lib.hid (HN.out (w.heap.size + 1 + 1) (by omega))
    have N3 := Lib.hid (HN.out (w.heap.size + 1 + 1 + 1) (by omega))
    have L2 := Lib.hid (K2.out.step s9 N2.out)
    have L3 := Lib.hid (K3.out.step s9 N3.out)
    have M2 := Lib.hid (s9.notin K2.out.lt N2.out)
    have M3 := Lib.hid (s9.notin K3.out.lt N3.out)
    have S9 := Lib.hid (HS.pre U9.out s9)
    clear s9 K2 K3 BED U9
    rcases Decidable.em (pw = sNone) with hs | hs
    · obtain rfl := hE.yes hs
      have RR : Hid (r = (sNone, ⟨pk, pn, ps⟩, pH)) := Lib.hid (by rw [HR2.out, if_pos hs, hs])
      clear hE
      subst hs
      obtain ⟨z0, z1, z2, y0, y1, y2⟩ := three L2.out
      have z3 := L3.out.cell 0
      have y3 := L3.out.frozen 0
      have l2 := L2.out.lt
      have l3 := L3.out.lt
      simp only [List.getElem?_toArray, List.getElem?_cons_zero, List.getElem?_cons_succ] at z3
      go_wp2_with fail
      refine vface_done _ (w.heap.size + 1 + 1) (w.heap.size + 1 + 1 + 1) ⟨pk, pn, ps⟩ ((put3 L2.out _ _ _).far (p := ⟨w.heap.size + 1 + 1 + 1, 0, none⟩) (by show ¬ w.heap.size + 1 + 1 = w.heap.size + 1 + 1 + 1; omega) _) ?_ _ ?_ _ _ _ _ _ _ _ _ _ _ _ _ _ _ _ _ _ _ _ _ _ _ _ _ _ _ _ _ _ _ _ _ _ _ _ _ _ _ _
      · have := ((L3.out.far (p := ⟨w.heap.size + 1 + 1, 0, none⟩) (by show ¬ w.heap.size + 1 + 1 + 1 = w.heap.size + 1 + 1; omega) (.int .i64 pk)).far (p := ⟨w.heap.size + 1 + 1, 1, none⟩) (by show ¬ w.heap.size + 1 + 1 + 1 = w.heap.size + 1 + 1; omega) (.int .i64 pn)).far (p := ⟨w.heap.size + 1 + 1, 2, none⟩) (by show ¬ w.heap.size + 1 + 1 + 1 = w.heap.size + 1 + 1; omega) (.string ps)
        have t2 := this.set_ 0 (.string ⟨#[]⟩)
        simp only [List.setIfInBounds_toArray, List.set_cons_zero] at t2
        exact t2
      · rw [RR.out]
        exact ⟨rfl, _, _, (S9.out.set3 (k := w.heap.size + 1 + 1) (by omega) M2.out _ _ _).setCell (p := ⟨w.heap.size + 1 + 1 + 1, 0, none⟩) (by show w.heap.size ≤ w.heap.size + 1 + 1 + 1; omega) M3.out _⟩
    · have he := hE.no hs
      unfold Fails at he
      subst he
      have RR : Hid (r = (pw, Vl.zero, pH)) := Lib.hid (by rw [HR2.out, if_neg hs])
      clear hE
      go_wp2_with fail
      refine vface_door _ (w.heap.size + 1 + 1) (w.heap.size + 1 + 1 + 1) pw hs (by omega) L2.out L3.out _ ?_ _ _ _ _ _ _ _ _ _ _ _ _ _ _ _ _ _ _ _ _ _ _ _ _ _ _ _ _ _ _ _ _ _ _ _ _ _ _ _
      intro W1 ho
      rw [RR.out]
      exact ⟨rfl, _, _, (S9.out.only' ho (by omega) M3.out).set3 (k := w.heap.size + 1 + 1) (by omega) M2.out _ _ _⟩
end Go.Proofs.YtlfihdcgbhdajaaGreatDoor
