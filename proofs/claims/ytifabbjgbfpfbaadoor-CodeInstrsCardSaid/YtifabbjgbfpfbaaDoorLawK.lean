/- Whether a program may be: the law's walk. -/
import Derived.Test.YtifabbjgbfpfbaaDoorChkC
import Derived.Test.YtifabbjgbfpfbaaDoorLarge
import Derived.Test.YtifabbjgbfpfbaaDoorKnown
import Derived.Test.YtifabbjgbfpfbaaDoorOpen
namespace Go.Proofs.YtifabbjgbfpfbaaDoor
open Go.RowKit Go.BigFrame
set_option linter.unusedVariables false
set_option linter.unusedSimpArgs false

theorem few_of {p : Pg} (h : NotLarge p) : Few p := ⟨Nat.le_trans h.np (by omega), fun f hf => Nat.le_trans (h.nc f hf) (by omega), Nat.le_trans h.ni (by omega), Nat.le_trans h.nt (by omega)⟩
theorem Came.ext {w w' : World} {vp vi vt : Value} {p : Pg} (h : Came w vp vi vt p) (he : Ext w w') : Came w' vp vi vt p := ⟨h.lies.ext he, h.np, h.ni, h.nt, h.pr, h.sz⟩
theorem large_came (p : Pg) (vp vi vt : Value) (w : World) (h : Came w vp vi vt p) : Calls Tryd.prog 6 #[.agg #[vp, vi, vt]] w (LargeSays p w) :=
  large_any p vp vi vt w h.lies h.np h.ni h.nt (fun f hf => (h.pr f hf).2) h.sz
theorem chk_v (p : Pg) (vp vi vt : Value) (v : Int) (w : World) (hv : (if chkP p then (0 : Int) else 2) = v) (h : Lies w vp vi vt p) (hs : Few p) (hz : ∀ s ∈ p.ts, s.size ≤ 9223372036854775807) :
    Calls Tryd.prog 8 #[.agg #[vp, vi, vt]] w fun e w' => e = .returned (.int .i64 v) ∧ Ext w w' := hv ▸ chk_any p vp vi vt w h hs hz
set_option maxRecDepth 100000 in
set_option maxHeartbeats 4000000 in
theorem vcheck (p : Pg) (vp vi vt : Value) (w : World) (ht : Pow w) (h0 : Came w vp vi vt p) :
    Calls Tryd.prog 3 #[.agg #[vp, vi, vt]] w fun e w' => e = .returned (.bool true) ∧ Ext w w' := by
  have H := Lib.hid h0
  clear h0
  go_enter Tryd.func3, Tryd.ntmps3
  go_wp2_with fail
  refine (large_came p vp vi vt _ (H.out.ext ((Ext.refl w).alloc _))).mono ?_
  rintro e w1 ⟨b, rfl, e1, hb⟩
  have K1 := Lib.hid (((Ext.refl w).alloc (.cells #[vp, vi, vt] 26)).trans e1)
  have hbk : Blk w1 w.heap.size 26 #[vp, vi, vt] := (Blk.new w _ _).ext e1
  have b0 := hbk.cell 0
  have b1 := hbk.cell 1
  have b2 := hbk.cell 2
  simp only [List.getElem?_toArray, List.getElem?_cons_zero, List.getElem?_cons_succ] at b0 b1 b2
  have HL := Lib.hid hb
  clear e1 hbk hb
  cases b
  rotate_left
  · clear b0 b1 b2
    go_wp2_with fail
    refine (known_any _ (ht.ext K1.out)).mono ?_
    rintro e w2 ⟨rfl, e2⟩
    go_wp2_with fail
    go_ret
    exact ⟨rfl, K1.out.trans e2⟩
  have HF := Lib.hid (few_of (HL.out rfl))
  obtain ⟨m, hm⟩ : ∃ m, cntTo p.ps p.ps.length = m := ⟨_, rfl⟩
  have cC := fun W (hE : Ext w W) => count_any p.ps vp vi vt W (H.out.lies.ext hE).ps (Nat.le_trans HF.out.np (by omega)) HF.out.nc
  have cD := fun W (hE : Ext w W) => rcount_any p.ps vp vi vt W (H.out.lies.ext hE).ps (Nat.le_trans HF.out.np (by omega)) HF.out.nc
  rw [hm] at cC cD
  clear hm
  cases hc : chkP p
  · have cK := chk_v p vp vi vt 2 w1 (by rw [hc]; rfl) (H.out.lies.ext K1.out) HF.out H.out.sz
    have cR := fun W (hE : Ext w W) => rchk_any p vp vi vt false hc W (H.out.lies.ext hE) HF.out H.out.sz
    clear hc
    go_wp2_with fail
    refine cK.mono ?_
    clear cK
    rintro e w2 ⟨rfl, e2⟩
    replace b0 := e2.cell b0
    replace b1 := e2.cell b1
    replace b2 := e2.cell b2
    have lb := cell_lt b0
    simp only at lb
    have K2 := Lib.hid (K1.out.trans e2)
    clear e2
    go_wp2_with fail
    refine wp_region_ext (by kernel_rfl) (by kernel_rfl) ?_
    repeat (
      first
        | go_big_quiet_skip
        | (go_big_quiet_want
           go_big_quiet_op
           first
             | go_big_quiet_on
             | (apply Exists.intro
                refine ⟨fun wq hq => ?_, ?_⟩
                focus (
                  have q1 := (Ext.cells hq).1
                  have q2 := (Ext.cells hq).2
                  first
                    | (first | (go_at_call 9; exact Calls.ext_of hq (cR _ (K2.out.trans hq))) | (go_at_call 10; exact Calls.ext_of hq (cC _ (K2.out.trans hq))) | (go_at_call 11; exact Calls.ext_of hq (cD _ (K2.out.trans hq))) | (go_at_call 7; exact Calls.ext_of hq (known_any _ (ht.ext (K2.out.trans hq)))); done)
                    | (go_simp; exact rfl))
                go_big_quiet_on)))
    refine wpQuiet_nil ?_
    intro w3 e3
    go_wp2_with fail
    go_ret
    exact ⟨rfl, K2.out.trans e3⟩
  · have cK := chk_v p vp vi vt 0 w1 (by rw [hc]; rfl) (H.out.lies.ext K1.out) HF.out H.out.sz
    have cR := fun W (hE : Ext w W) => rchk_any p vp vi vt true hc W (H.out.lies.ext hE) HF.out H.out.sz
    clear hc
    go_wp2_with fail
    refine cK.mono ?_
    clear cK
    rintro e w2 ⟨rfl, e2⟩
    replace b0 := e2.cell b0
    replace b1 := e2.cell b1
    replace b2 := e2.cell b2
    have lb := cell_lt b0
    simp only at lb
    have K2 := Lib.hid (K1.out.trans e2)
    clear e2
    go_wp2_with fail
    refine wp_region_ext (by kernel_rfl) (by kernel_rfl) ?_
    repeat (
      first
        | go_big_quiet_skip
        | (go_big_quiet_want
           go_big_quiet_op
           first
             | go_big_quiet_on
             | (apply Exists.intro
                refine ⟨fun wq hq => ?_, ?_⟩
                focus (
                  have q1 := (Ext.cells hq).1
                  have q2 := (Ext.cells hq).2
                  first
                    | (first | (go_at_call 9; exact Calls.ext_of hq (cR _ (K2.out.trans hq))) | (go_at_call 10; exact Calls.ext_of hq (cC _ (K2.out.trans hq))) | (go_at_call 11; exact Calls.ext_of hq (cD _ (K2.out.trans hq))) | (go_at_call 7; exact Calls.ext_of hq (known_any _ (ht.ext (K2.out.trans hq)))); done)
                    | (go_simp; exact rfl))
                go_big_quiet_on)))
    refine wpQuiet_nil ?_
    intro w3 e3
    go_wp2_with fail
    go_ret
    exact ⟨rfl, K2.out.trans e3⟩
end Go.Proofs.YtifabbjgbfpfbaaDoor
