/- RespSame: the statement's walk. -/
import Derived.Test.YtopdgmchkoaeeaaDoorSaA
namespace Go.Proofs.YtopdgmchkoaeeaaDoor
open Go.RowKit
set_option linter.unusedVariables false
set_option linter.unusedSimpArgs false

set_option maxRecDepth 100000 in
set_option maxHeartbeats 8000000 in
theorem law_same (w : World) (x y : Rep) (q q' : Option Addr) (c c' D D' : Nat) (hx : ListAt (fun b => b < w.heap.size) w D (.slice q x.l.length c) x.l) (hy : ListAt (fun b => b < w.heap.size) w D' (.slice q' y.l.length c') y.l) (hpw : Pow w) :
    Calls Tryd.prog 10 #[repV x q c, repV y q' c'] w fun e w' => e = .returned (.bool true) ∧ Ext w w' := by
  have HE := Lib.hid (((Ext.refl w).alloc (.cells #[.int .i64 x.k, .int .i64 x.n, .string x.s, .slice q x.l.length c] 41)).alloc (.cells #[.int .i64 y.k, .int .i64 y.n, .string y.s, .slice q' y.l.length c'] 41))
  have HX : Hid (Blk ((w.alloc (.cells #[.int .i64 x.k, .int .i64 x.n, .string x.s, .slice q x.l.length c] 41)).alloc (.cells #[.int .i64 y.k, .int .i64 y.n, .string y.s, .slice q' y.l.length c'] 41)) w.heap.size 41 #[.int .i64 x.k, .int .i64 x.n, .string x.s, .slice q x.l.length c]) := Lib.hid ((Blk.new w _ _).alloc _)
  have HY : Hid (Blk ((w.alloc (.cells #[.int .i64 x.k, .int .i64 x.n, .string x.s, .slice q x.l.length c] 41)).alloc (.cells #[.int .i64 y.k, .int .i64 y.n, .string y.s, .slice q' y.l.length c'] 41)) (w.heap.size + 1) 41 #[.int .i64 y.k, .int .i64 y.n, .string y.s, .slice q' y.l.length c']) := Lib.hid (by
    have := Blk.new (w.alloc (.cells #[.int .i64 x.k, .int .i64 x.n, .string x.s, .slice q x.l.length c] 41)) 41 #[.int .i64 y.k, .int .i64 y.n, .string y.s, .slice q' y.l.length c']
    rwa [size_alloc] at this)
  have HP := Lib.hid hpw
  have cX : ∀ W, Ext w W → Calls Tryd.prog 28 #[cellsV x.k x.n x.s (.slice q x.l.length c), .int .i64 0] W fun e w' => e = .returned (.int .i64 (szR x 0 : Int)) ∧ Ext W w' := fun W hW => size_any D _ W x _ 0 (hx.ext hW) (by omega)
  have cY : ∀ W, Ext w W → Calls Tryd.prog 28 #[cellsV y.k y.n y.s (.slice q' y.l.length c'), .int .i64 0] W fun e w' => e = .returned (.int .i64 (szR y 0 : Int)) ∧ Ext W w' := fun W hW => size_any D' _ W y _ 0 (hy.ext hW) (by omega)
  have hit : szR x 0 ≤ 3000 → itR x ≤ 1000000000 := fun h => by have := szR_few x 0 (by omega) h; omega
  have cA : szR x 0 ≤ 3000 → ∀ W, Ext w W → Calls Tryd.prog 33 #[cellsV x.k x.n x.s (.slice q x.l.length c), cellsV y.k y.n y.s (.slice q' y.l.length c')] W fun e w' => e = .returned (.bool (sameR x y)) ∧ Ext W w' := fun h W hW => same_any D D' _ _ W x y _ _ (hx.ext hW) (hy.ext hW) (hit h)
  have cB : szR x 0 ≤ 3000 → ∀ W, Ext w W → Calls Tryd.prog 22 #[cellsV x.k x.n x.s (.slice q x.l.length c), cellsV y.k y.n y.s (.slice q' y.l.length c')] W fun e w' => e = .returned (.bool (sameR x y)) ∧ Ext W w' := fun h W hW => rsame_any D D' _ _ W x y _ _ (hx.ext hW) (hy.ext hW) (hit h)
  have cC : szR x 0 ≤ 3000 → ∀ W, Ext w W → Calls Tryd.prog 33 #[cellsV x.k x.n x.s (.slice q x.l.length c), cellsV x.k x.n x.s (.slice q x.l.length c)] W fun e w' => e = .returned (.bool true) ∧ Ext W w' := fun h W hW => by
    have := same_any D D _ _ W x x _ _ (hx.ext hW) (hx.ext hW) (hit h)
    rwa [sameR_self] at this
  have CX := Lib.hid cX
  have CY := Lib.hid cY
  have CA := Lib.hid cA
  have CB := Lib.hid cB
  have CC := Lib.hid cC
  have HW := Lib.hid (fun W (hW : Ext w W) => works_any W (hpw.ext hW))
  clear hx hy hpw cX cY cA cB cC hit
  generalize szR x 0 = X at CX CA CB CC
  generalize szR y 0 = Y at CY
  generalize sameR x y = r at CA CB
  go_enter Tryd.func10, Tryd.ntmps10
  go_wp2_with fail
  generalize (w.alloc (.cells #[.int .i64 x.k, .int .i64 x.n, .string x.s, .slice q x.l.length c] 41)).alloc (.cells #[.int .i64 y.k, .int .i64 y.n, .string y.s, .slice q' y.l.length c'] 41) = w0 at HE HX HY ⊢
  refine (CX.out w0 HE.out).mono ?_
  rintro e w1 ⟨rfl, e1⟩
  have HE1 := Lib.hid (HE.out.trans e1)
  have HX1 := Lib.hid (HX.out.ext e1)
  have HY1 := Lib.hid (HY.out.ext e1)
  clear HE HX HY e1
  have y0 := HY1.out.cell 0
  have y1 := HY1.out.cell 1
  have y2 := HY1.out.cell 2
  have y3 := HY1.out.cell 3
  simp only [List.getElem?_toArray, List.getElem?_cons_zero, List.getElem?_cons_succ] at y0 y1 y2 y3
  by_cases hX : X ≤ 3000
  · have d1 : decide ((3000 : Int) < (X : Int)) = false := decide_eq_false (by omega)
    have d1n : decide (3000 < X) = false := decide_eq_false (by omega)
    go_wp2_with fail
    refine (CY.out w1 HE1.out).mono ?_
    rintro e w2 ⟨rfl, e2⟩
    have HE2 := Lib.hid (HE1.out.trans e2)
    have HX2 := Lib.hid (HX1.out.ext e2)
    have HY2 := Lib.hid (HY1.out.ext e2)
    clear HE1 HX1 HY1 e2 y0 y1 y2 y3
    by_cases hY : Y ≤ 3000
    · have d2 : decide ((3000 : Int) < (Y : Int)) = false := decide_eq_false (by omega)
      have d2n : decide (3000 < Y) = false := decide_eq_false (by omega)
      have KA := Lib.hid (CA.out hX)
      have KB := Lib.hid (CB.out hX)
      have KC := Lib.hid (CC.out hX)
      clear CA CB CC CX CY
      have x0 := HX2.out.cell 0
      have x1 := HX2.out.cell 1
      have x2 := HX2.out.cell 2
      have x3 := HX2.out.cell 3
      have y0 := HY2.out.cell 0
      have y1 := HY2.out.cell 1
      have y2 := HY2.out.cell 2
      have y3 := HY2.out.cell 3
      simp only [List.getElem?_toArray, List.getElem?_cons_zero, List.getElem?_cons_succ] at x0 x1 x2 x3 y0 y1 y2 y3
      cases r
      all_goals
        go_wp2_with fail
        refine wp_region_ext (by kernel_rfl) (by kernel_rfl) ?_
        repeat (
          first
            | go_big_quiet_skip
            | (go_big_quiet_want
               go_big_quiet_op
               first
                 | go_big_quiet_on
                 | (apply Exists.intro
                    refine ⟨fun wq hq => ?_, ?_⟩
                    focus (
                      have x0 := hq.cell x0
                      have x1 := hq.cell x1
                      have x2 := hq.cell x2
                      have x3 := hq.cell x3
                      have y0 := hq.cell y0
                      have y1 := hq.cell y1
                      have y2 := hq.cell y2
                      have y3 := hq.cell y3
                      first
                        | (go_at_call 13; exact Calls.ext_of hq (HW.out wq (HE2.out.trans hq)); done)
                        | (go_at_call 22; exact Calls.ext_of hq (KB.out wq (HE2.out.trans hq)); done)
                        | (go_at_call 33; ((with_reducible refine Calls.ext_of hq (KA.out _ ?_)); exact HE2.out.trans hq); done)
                        | (go_at_call 33; ((with_reducible refine Calls.ext_of hq (KC.out _ ?_)); exact HE2.out.trans hq); done)
                        | (go_simp; exact rfl))
                    go_big_quiet_on)))
        refine wpQuiet_nil ?_
        intro we hwe
        clear x0 x1 x2 x3 y0 y1 y2 y3
        go_wp2_with fail
        go_ret
        exact ⟨rfl, HE2.out.trans hwe⟩
    · have d2 : decide ((3000 : Int) < (Y : Int)) = true := decide_eq_true (by omega)
      have d2n : decide (3000 < Y) = true := decide_eq_true (by omega)
      go_wp2_with fail
      refine (HW.out w2 HE2.out).mono ?_
      rintro e w3 ⟨rfl, e3⟩
      have HE3 := Lib.hid (HE2.out.trans e3)
      clear e3
      go_wp2_with fail
      go_ret
      exact ⟨rfl, HE3.out⟩
  · have d1 : decide ((3000 : Int) < (X : Int)) = true := decide_eq_true (by omega)
    have d1n : decide (3000 < X) = true := decide_eq_true (by omega)
    go_wp2_with fail
    refine (HW.out w1 HE1.out).mono ?_
    rintro e w3 ⟨rfl, e3⟩
    have HE3 := Lib.hid (HE1.out.trans e3)
    clear e3
    go_wp2_with fail
    go_ret
    exact ⟨rfl, HE3.out⟩
end Go.Proofs.YtopdgmchkoaeeaaDoor
