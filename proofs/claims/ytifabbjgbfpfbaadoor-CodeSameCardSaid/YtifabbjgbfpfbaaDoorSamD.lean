/- Two programs are the same just if they are: the law's walk; its row. -/
import Derived.Test.YtifabbjgbfpfbaaDoorSamC
import Derived.Test.YtifabbjgbfpfbaaDoorLawK
namespace Go.Proofs.YtifabbjgbfpfbaaDoor
open Go.ChangeShapes Go.WideShapes Go.ChangeAt Go.RowKit Go.Joins Go.Deep Go.BigFrame Go.ChangeMaps
set_option linter.unusedVariables false
set_option linter.unusedSimpArgs false

abbrev Pf.pg (p : Pf) : Pg := ⟨p.ps, p.is.length, p.ts⟩
set_option maxRecDepth 100000 in
set_option maxHeartbeats 4000000 in
theorem vsame (p q : Pf) (vp vi vt up ui ut : Value) (w : World) (ht : Pow w) (hp : PfAt w vp vi vt p) (hq : PfAt w up ui ut q) (cp : Came w vp vi vt p.pg) (cq : Came w up ui ut q.pg) :
    Calls Tryd.prog 5 #[.agg #[vp, vi, vt], .agg #[up, ui, ut]] w fun e w' => e = .returned (.bool true) ∧ Ext w w' := by
  have CP := Lib.hid cp
  have CQ := Lib.hid cq
  have PP := Lib.hid hp
  have QQ := Lib.hid hq
  have HB := Lib.hid (boxes_new w 26 vp vi vt up ui ut)
  have K0 := Lib.hid (((Ext.refl w).alloc (.cells #[vp, vi, vt] 26)).alloc (.cells #[up, ui, ut] 26))
  clear cp cq hp hq
  go_enter Tryd.func5, Tryd.ntmps5
  go_wp2_with fail
  refine (large_came p.pg vp vi vt _ (CP.out.ext K0.out)).mono ?_
  rintro e w1 ⟨b, rfl, e1, hb⟩
  have K1 := Lib.hid (K0.out.trans e1)
  have B1 := Lib.hid (HB.out.ext e1)
  clear e1 hb HB
  cases b
  rotate_left
  · go_wp2_with fail
    refine (known_any _ (ht.ext K1.out)).mono ?_
    rintro e w2 ⟨rfl, e2⟩
    go_wp2_with fail
    go_ret
    exact ⟨rfl, K1.out.trans e2⟩
  have y0 := B1.out.y0
  have y1 := B1.out.y1
  have y2 := B1.out.y2
  go_wp2_with fail
  refine (large_came q.pg up ui ut _ (CQ.out.ext K1.out)).mono ?_
  rintro e w2 ⟨b, rfl, e2, hb⟩
  have K2 := Lib.hid (K1.out.trans e2)
  have B2 := Lib.hid (B1.out.ext e2)
  clear e2 hb B1 y0 y1 y2
  cases b
  rotate_left
  · go_wp2_with fail
    refine (known_any _ (ht.ext K2.out)).mono ?_
    rintro e w3 ⟨rfl, e3⟩
    go_wp2_with fail
    go_ret
    exact ⟨rfl, K2.out.trans e3⟩
  have x0 := B2.out.x0
  have x1 := B2.out.x1
  have x2 := B2.out.x2
  have y0 := B2.out.y0
  have y1 := B2.out.y1
  have y2 := B2.out.y2
  have ly := cell_lt y0
  have lx := cell_lt x0
  simp only at ly lx
  have cS := fun W (hE : Ext w W) => same_any p q vp vi vt up ui ut W (PP.out.ext hE) (QQ.out.ext hE)
  have cR := fun W (hE : Ext w W) => rsame_all p q vp vi vt up ui ut W (PP.out.ext hE) (QQ.out.ext hE)
  have cT := fun W (hE : Ext w W) => same_any p p vp vi vt vp vi vt W (PP.out.ext hE) (PP.out.ext hE)
  rw [samB_self] at cT
  generalize samB p q = s at cS cR
  have ss : ((Value.bool s) = (Value.bool s)) := rfl
  cases s
  all_goals
    go_wp2_with fail
    refine wp_region_ext (by kernel_rfl) (by kernel_rfl) ?_
    repeat (
      first
        | go_big_quiet_skip
        | (go_big_quiet_want
           go_big_quiet_op
           first
             | go_big_quiet_on
             | (apply Exists.intro
                refine ⟨fun wq hq => ?_, ?_⟩
                focus (
                  have q1 := (Ext.cells hq).1
                  have q2 := (Ext.cells hq).2
                  first
                    | (first | (go_at_call 12; first | (((with_reducible refine Calls.ext_of hq (cS _ ?_)); exact K2.out.trans hq); done) | (((with_reducible refine Calls.ext_of hq (cT _ ?_)); exact K2.out.trans hq); done)) | (go_at_call 13; exact Calls.ext_of hq (cR _ (K2.out.trans hq))) | (go_at_call 7; exact Calls.ext_of hq (known_any _ (ht.ext (K2.out.trans hq)))); done)
                    | (go_simp; exact rfl))
                go_big_quiet_on)))
    refine wpQuiet_nil ?_
    intro w3 e3
    go_wp2_with fail
    go_ret
    exact ⟨rfl, K2.out.trans e3⟩

theorem nums_open {H : Type} {enc : TypeId × Value → H} {w : World} {n : Nat} {cv : Value} {y : DataW H × List MemPlace} (h : DataW.trod enc Tryd.prog w 0 (fun _ => true) true n 23 [cv] = some y) :
    ∃ l : List Int, NumsAt' w cv l ∧ l.length ≤ maxLen ∧ ∀ x ∈ l, i64 x := by
  rcases open_slice1 Tryd.underlying23 (by kernel_rfl) h with ⟨e, _⟩ | ⟨a, len, cap, m, n', V, D, Pl, e, _, hlc, hcm, hm, _, hx⟩
  · cases e
    exact ⟨[], ⟨none, 0, rfl, fun h => by cases h⟩, by decide, fun i hi => by cases hi⟩
  · cases e
    have hm' : m = cap := by rw [hm]; rfl
    subst hm'
    have hone : ∀ i, i < len → ∃ s : Int, i64 s ∧ a = ⟨a.block, a.off, none⟩ ∧ w.cell? ⟨a.block, a.off + i, none⟩ = some (.int .i64 s) := by
      intro i hi
      have h00 := (hx 0 (by omega)).1
      have hpl : a = ⟨a.block, a.off, none⟩ := plain_eq (by have := cell_plain h00; simpa [Addr.add] using this)
      obtain ⟨hc, ht⟩ := hx i (by omega)
      obtain ⟨s, e, _, ws⟩ := DataW.trod_int Tryd.underlying2 ht
      simp only [List.cons.injEq, and_true] at e
      rw [hpl, add_at, e] at hc
      exact ⟨s, i64_wf ws, hpl, hc⟩
    obtain ⟨z, hz⟩ := choose_lt hone
    refine ⟨(List.range len).map z, ⟨some a, m, by simp, fun hl => ?_⟩, by simp; omega, ?_⟩
    · have h0 : 0 < len := by simpa using hl
      refine ⟨a.block, a.off, by rw [← (hz 0 h0).2.1], fun i hi => ?_⟩
      have hi' : i < len := by simpa using hi
      have := (hz i hi').2.2
      simpa using this
    · intro x hx
      simp only [List.mem_map, List.mem_range] at hx
      obtain ⟨i, hi, rfl⟩ := hx
      exact (hz i hi).1
set_option maxRecDepth 100000 in
theorem pf_open {H : Type} {enc : TypeId × Value → H} {w : World} {v : Value} {d : DataW H} {pl : List MemPlace} {r : Reach} {b0 : Nat} (hv : Value.okWide Tryd.prog w r b0 26 v) (h : DataW.Trod enc Tryd.prog w 0 (fun _ => true) true 26 v d pl) :
    ∃ vp vi vt p, v = .agg #[vp, vi, vt] ∧ PfAt w vp vi vt p ∧ Came w vp vi vt p.pg ∧ ∀ x ∈ p.is, i64 x := by
  obtain ⟨cs, rfl, hsz⟩ := okWide_struct Tryd.underlying26 hv
  obtain ⟨c0, c1, c2, rfl⟩ := array3 (hsz.trans cell_prog)
  obtain ⟨fuel, hf⟩ := h
  obtain ⟨y0, y1, y2, m, _, _, t0, t1, t2⟩ := trod_struct3 Tryd.underlying26 hf
  simp only [Value.cells, cell_protos, cell_ints, cell_texts, List.drop_zero, List.drop_succ_cons, List.take_succ_cons, List.take_zero] at t0 t1 t2
  have mx : maxLen ≤ 9223372036854775807 := by decide
  obtain ⟨ps, h1, h2, h3⟩ := protos_open t0
  obtain ⟨is, h4, h5, h5'⟩ := nums_open t1
  obtain ⟨ts, h6, h7, h8⟩ := texts_open t2
  have hi : IntsAt c1 is.length := by obtain ⟨q, c, e, _⟩ := h4; exact ⟨q, c, e⟩
  exact ⟨c0, c1, c2, ⟨ps, is, ts⟩, rfl, ⟨h1, h4, h6, Nat.le_trans h2 mx, Nat.le_trans h5 mx, Nat.le_trans h7 mx, fun f hf => Nat.le_trans (h3 f hf).2 mx⟩, ⟨⟨h1, hi, h6⟩, Nat.le_trans h2 mx, Nat.le_trans h5 mx, Nat.le_trans h7 mx, fun f hf => ⟨(h3 f hf).1, Nat.le_trans (h3 f hf).2 mx⟩, fun s hs => Nat.le_trans (h8 s hs) mx⟩, h5'⟩
end Go.Proofs.YtifabbjgbfpfbaaDoor
namespace Go.Proofs.YtifabbjgbfpfbaaDoor.codeSame
open Go.ChangeShapes Go.WideShapes Go.ChangeAt Go.RowKit Go.Joins Go.Deep Go.ChangeMaps
set_option linter.unusedVariables false
set_option linter.unusedSimpArgs false
set_option maxRecDepth 100000 in
theorem contract (H : Type) (enc : TypeId × Value → H) (W : World) (base : Nat) (args : Array Value) (ds gs : List (DataW H)) (before : List MemPlace)
    (hval : ∀ (j : Nat) t v, Tryd.f5.params[j]? = some t → args[j]? = some v → Value.okWide Tryd.prog W .any base t v)
    (hW : DataW.Whole enc Tryd.prog Tryd.f5.params.toList Rows.codeSameSpec.vars false W args.toList ds gs before) (hL : laidMetH Tryd.prog Rows.codeSameRow.laid W) :
    Calls Tryd.prog 5 args W fun e W' => ∃ v, e = .returned v ∧ Rows.codeSameSpec.post enc Tryd.prog Tryd.f5 false true false false W args v W' := by
  have hW' := hW
  obtain ⟨p, q, hA0, hV, rfl, hfz, hnd⟩ := hW
  have hA : DataW.TrodAll enc Tryd.prog W 0 (fun _ => true) true Tryd.f5.params.toList args.toList ds p := hA0
  rw [Tryd.params5] at hA hval
  obtain ⟨v0, vs0, d0, ds0, p0, q0, hargs, rfl, rfl, h0, r0⟩ := trodAll_cons hA
  obtain ⟨v1, vs1, d1, ds1, p1, q1, rfl, rfl, rfl, h1, r1⟩ := trodAll_cons r0
  obtain ⟨rfl, rfl, rfl⟩ := trodAll_nil r1
  obtain rfl : args = #[v0, v1] := by cases args; simp_all
  obtain ⟨rfl, rfl⟩ := trodVars_none hV
  obtain ⟨vp, vi, vt, p, rfl, hp, hc, _⟩ := pf_open (hval 0 _ v0 rfl rfl) h0
  obtain ⟨up, ui, ut, q, rfl, hq, hd, _⟩ := pf_open (hval 1 _ v1 rfl rfl) h1
  clear hA0
  refine (vsame p q vp vi vt up ui ut W (pow_of_laid hL) hp hq hc hd).mono fun e W' ⟨he, hg⟩ => ?_
  subst he
  exact ⟨_, rfl, post_grown laidOut (by kernel_rfl) rfl hW' (fun _ _ _ => trodAll_cons_mk (shut_bool Tryd.underlying4 _) trodAll_mk0) rfl rfl hg⟩
end Go.Proofs.YtifabbjgbfpfbaaDoor.codeSame
