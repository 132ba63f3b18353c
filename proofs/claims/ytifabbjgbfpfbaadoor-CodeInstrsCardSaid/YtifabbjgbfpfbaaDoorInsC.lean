/- Which instructions may be: the law; its row. -/
import Derived.Test.YtifabbjgbfpfbaaDoorInsB
namespace Go.Proofs.YtifabbjgbfpfbaaDoor
open Go.ChangeShapes Go.WideShapes Go.ChangeAt Go.RowKit Go.Joins Go.Deep Go.BigFrame Go.ChangeMaps
set_option linter.unusedVariables false
set_option linter.unusedSimpArgs false

set_option maxRecDepth 100000 in
set_option maxHeartbeats 4000000 in
theorem ins_long (p : Pg) (l : List Ins) (vp vi vt lv : Value) (w : World) (ht : Pow w) (h0 : Came w vp vi vt p) (hl : CodeAt w lv l) (h40 : 40 < l.length) (hm : l.length ≤ 9223372036854775807) :
    Calls Tryd.prog 4 #[.agg #[vp, vi, vt], lv] w fun e w' => e = .returned (.bool true) ∧ Ext w w' := by
  have H := Lib.hid h0
  obtain ⟨ql, cl, rfl, hlx⟩ := hl
  obtain ⟨n, hn⟩ : ∃ n, l.length = n := ⟨_, rfl⟩
  rw [hn] at h40 hm ⊢
  clear hlx hn h0
  have d1 : decide (40 < (n : Int)) = true := decide_eq_true (by omega)
  go_enter Tryd.func4, Tryd.ntmps4
  go_wp2_with fail
  refine (large_came p vp vi vt _ (H.out.ext ((Ext.refl w).alloc _))).mono ?_
  rintro e w1 ⟨b, rfl, e1, hb⟩
  have K1 := Lib.hid (((Ext.refl w).alloc (.cells #[vp, vi, vt] 26)).trans e1)
  clear e1 hb
  cases b <;> (
    go_wp2_with fail
    refine (known_any _ (ht.ext K1.out)).mono ?_
    rintro e w2 ⟨rfl, e2⟩
    go_wp2_with fail
    go_ret
    exact ⟨rfl, K1.out.trans e2⟩)
set_option maxRecDepth 100000 in
set_option maxHeartbeats 4000000 in
theorem ins_none (p : Pg) (hp : p.ps = []) (l : List Ins) (vp vi vt lv : Value) (w : World) (ht : Pow w) (h0 : Came w vp vi vt p) (hl : CodeAt w lv l) (h40 : l.length ≤ 40) :
    Calls Tryd.prog 4 #[.agg #[vp, vi, vt], lv] w fun e w' => e = .returned (.bool true) ∧ Ext w w' := by
  have H := Lib.hid h0
  obtain ⟨ql, cl, rfl, hlx⟩ := hl
  obtain ⟨qp, cp, e, _⟩ := h0.lies.ps
  rw [hp] at e
  subst e
  obtain ⟨n, hn⟩ : ∃ n, l.length = n := ⟨_, rfl⟩
  rw [hn] at h40 ⊢
  clear hlx hn h0 hp
  have d1 : decide (40 < (n : Int)) = false := decide_eq_false (by omega)
  go_enter Tryd.func4, Tryd.ntmps4
  go_wp2_with fail
  refine (large_came p _ vi vt _ (H.out.ext ((Ext.refl w).alloc _))).mono ?_
  rintro e w1 ⟨b, rfl, e1, hb⟩
  have K1 := Lib.hid (((Ext.refl w).alloc (.cells #[.slice qp 0 cp, vi, vt] 26)).trans e1)
  have hbk : Blk w1 w.heap.size 26 #[.slice qp 0 cp, vi, vt] := (Blk.new w _ _).ext e1
  have b0 := hbk.cell 0
  simp only [List.getElem?_toArray, List.getElem?_cons_zero, List.getElem?_cons_succ] at b0
  clear e1 hb hbk
  cases b <;> (
    go_wp2_with fail
    refine (known_any _ (ht.ext K1.out)).mono ?_
    rintro e w2 ⟨rfl, e2⟩
    go_wp2_with fail
    go_ret
    exact ⟨rfl, K1.out.trans e2⟩)
set_option maxRecDepth 100000 in
set_option maxHeartbeats 4000000 in
theorem ins_bare (f : Pr) (rest : List Pr) (ni : Nat) (ts : List ByteArray) (hc0 : f.cd = []) (l : List Ins) (vp vi vt lv : Value) (w : World) (ht : Pow w) (h0 : Came w vp vi vt (pgOf f rest ni ts)) (hl : CodeAt w lv l) (h40 : l.length ≤ 40) :
    Calls Tryd.prog 4 #[.agg #[vp, vi, vt], lv] w fun e w' => e = .returned (.bool true) ∧ Ext w w' := by
  have H := Lib.hid h0
  obtain ⟨ql, cl, rfl, hlx⟩ := hl
  obtain ⟨qp, cp, e, hx⟩ := h0.lies.ps
  obtain ⟨bp, op, rfl, hx'⟩ := hx (by simp [pgOf])
  have h00 : 0 < (pgOf f rest ni ts).ps.length := by simp [pgOf]
  obtain ⟨c0, c1, cv, c2, hcv⟩ := hx' 0 h00
  obtain ⟨qc, cc, rfl, _⟩ := hcv
  subst e
  simp only [pgOf, List.getElem_cons_zero, hc0, List.length_nil, Nat.zero_mul, Nat.add_zero] at c0 c1 c2
  obtain ⟨z, hz⟩ : ∃ z, rest.length = z := ⟨_, rfl⟩
  have hrl : rest.length + 1 ≤ 9223372036854775807 := by simpa using h0.np
  have HZ := Lib.hid hz
  simp only [pgOf, List.length_cons] at *
  rw [hz] at hrl ⊢
  obtain ⟨n, hn⟩ : ∃ n, l.length = n := ⟨_, rfl⟩
  rw [hn] at h40 ⊢
  have lP := cell_lt c2
  simp only at lP
  clear hlx hn h0 hx hx' hz hc0
  have d1 : decide (40 < (n : Int)) = false := decide_eq_false (by omega)
  have d2 : decide (((z + 1 : Nat) : Int) < 1) = false := decide_eq_false (by omega)
  have d4 : (0 : Int) < ((z + 1 : Nat) : Int) := by omega
  go_enter Tryd.func4, Tryd.ntmps4
  go_wp2_with fail
  refine (large_came (pgOf f rest ni ts) _ vi vt _ ?_).mono ?_
  rotate_left
  rotate_left
  · rw [← HZ.out]
    exact H.out.ext ((Ext.refl w).alloc _)
  rintro e w1 ⟨b, rfl, e1, hb⟩
  have K1 := Lib.hid (((Ext.refl w).alloc (.cells #[.slice (some ⟨bp, op, none⟩) (z + 1) cp, vi, vt] 26)).trans e1)
  have hbk : Blk w1 w.heap.size 26 #[.slice (some ⟨bp, op, none⟩) (z + 1) cp, vi, vt] := (Blk.new w _ _).ext e1
  have b0 := hbk.cell 0
  simp only [List.getElem?_toArray, List.getElem?_cons_zero, List.getElem?_cons_succ] at b0
  replace c2 := K1.out.cell c2
  clear e1 hb hbk c0 c1
  cases b <;> (
    go_wp2_with fail
    refine (known_any _ (ht.ext K1.out)).mono ?_
    rintro e w2 ⟨rfl, e2⟩
    go_wp2_with fail
    go_ret
    exact ⟨rfl, K1.out.trans e2⟩)
theorem ins_any (p : Pg) (l : List Ins) (vp vi vt lv : Value) (w : World) (ht : Pow w) (h0 : Came w vp vi vt p) (hcap : ∀ q n c, vp = .slice q n c → n ≤ c) (hl : CodeAt w lv l) (hm : l.length ≤ 9223372036854775807) :
    Calls Tryd.prog 4 #[.agg #[vp, vi, vt], lv] w fun e w' => e = .returned (.bool true) ∧ Ext w w' := by
  rcases Nat.lt_or_ge 40 l.length with h | h
  · exact ins_long p l vp vi vt lv w ht h0 hl h hm
  obtain ⟨ps, ni, ts⟩ := p
  cases ps with
  | nil => exact ins_none _ rfl l vp vi vt lv w ht h0 hl h
  | cons f rest =>
    cases hc : f.cd with
    | nil => exact ins_bare f rest ni ts hc l vp vi vt lv w ht h0 hl h
    | cons i t => exact ins_main f rest ni ts l vp vi vt lv w ht h0 (by rw [hc]; simp) hcap hl h
theorem protos_cap {H : Type} {enc : TypeId × Value → H} {w : World} {n : Nat} {cv : Value} {y : DataW H × List MemPlace} (h : DataW.trod enc Tryd.prog w 0 (fun _ => true) true n 22 [cv] = some y) :
    ∀ q k c, cv = .slice q k c → k ≤ c := by
  rcases open_slice Tryd.underlying22 h with ⟨e, _⟩ | ⟨a, len, cap, m, n', D, Pl, e, _, hlc, hcm, hm, _, hx⟩
  · cases e
    intro q k c e
    cases e
    exact Nat.le_refl _
  · cases e
    intro q k c e
    cases e
    exact hlc
set_option maxRecDepth 100000 in
theorem prog_cap {H : Type} {enc : TypeId × Value → H} {w : World} {vp vi vt : Value} {d : DataW H} {pl : List MemPlace} (h : DataW.Trod enc Tryd.prog w 0 (fun _ => true) true 26 (.agg #[vp, vi, vt]) d pl) :
    ∀ q k c, vp = .slice q k c → k ≤ c := by
  obtain ⟨fuel, hf⟩ := h
  obtain ⟨y0, y1, y2, m, _, _, t0, t1, t2⟩ := trod_struct3 Tryd.underlying26 hf
  simp only [Value.cells, cell_protos, cell_ints, cell_texts, List.drop_zero, List.drop_succ_cons, List.take_succ_cons, List.take_zero] at t0
  exact protos_cap t0
end Go.Proofs.YtifabbjgbfpfbaaDoor
namespace Go.Proofs.YtifabbjgbfpfbaaDoor.codeInstrs
open Go.ChangeShapes Go.WideShapes Go.ChangeAt Go.RowKit Go.Joins Go.Deep Go.ChangeMaps
set_option linter.unusedVariables false
set_option linter.unusedSimpArgs false
set_option maxRecDepth 100000 in
theorem contract (H : Type) (enc : TypeId × Value → H) (W : World) (base : Nat) (args : Array Value) (ds gs : List (DataW H)) (before : List MemPlace)
    (hval : ∀ (j : Nat) t v, Tryd.f4.params[j]? = some t → args[j]? = some v → Value.okWide Tryd.prog W .any base t v)
    (hW : DataW.Whole enc Tryd.prog Tryd.f4.params.toList Rows.codeInstrsSpec.vars false W args.toList ds gs before) (hL : laidMetH Tryd.prog Rows.codeInstrsRow.laid W) :
    Calls Tryd.prog 4 args W fun e W' => ∃ v, e = .returned v ∧ Rows.codeInstrsSpec.post enc Tryd.prog Tryd.f4 false true false false W args v W' := by
  have hW' := hW
  obtain ⟨p, q, hA0, hV, rfl, hfz, hnd⟩ := hW
  have hA : DataW.TrodAll enc Tryd.prog W 0 (fun _ => true) true Tryd.f4.params.toList args.toList ds p := hA0
  rw [Tryd.params4] at hA hval
  obtain ⟨v0, vs0, d0, ds0, p0, q0, hargs, rfl, rfl, h0, r0⟩ := trodAll_cons hA
  obtain ⟨v1, vs1, d1, ds1, p1, q1, rfl, rfl, rfl, h1, r1⟩ := trodAll_cons r0
  obtain ⟨rfl, rfl, rfl⟩ := trodAll_nil r1
  obtain rfl : args = #[v0, v1] := by cases args; simp_all
  obtain ⟨rfl, rfl⟩ := trodVars_none hV
  obtain ⟨vp, vi, vt, p, rfl, hc⟩ := prog_open (hval 0 _ v0 rfl rfl) h0
  have hcap := prog_cap h0
  obtain ⟨fuel, hf⟩ := h1
  have hv1 := hval 1 _ v1 rfl rfl
  obtain ⟨ql, nl, cl, rfl⟩ := okWide_slice Tryd.underlying32 hv1
  obtain ⟨l, hl, hlm, _⟩ := code_open hf
  clear hA0
  refine (ins_any p l vp vi vt _ W (pow_of_laid hL) hc hcap hl (Nat.le_trans hlm (by decide))).mono fun e W' ⟨he, hg⟩ => ?_
  subst he
  exact ⟨_, rfl, post_grown laidOut (by kernel_rfl) rfl hW' (fun _ _ _ => trodAll_cons_mk (shut_bool Tryd.underlying4 _) trodAll_mk0) rfl rfl hg⟩
end Go.Proofs.YtifabbjgbfpfbaaDoor.codeInstrs
