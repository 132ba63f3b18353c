/- code.Read. -/
import Derived.Test.YtfjipoijbmmjcaaGreatDoorYB7
import Derived.Scope
import Derived.WalkMore
namespace Go.Proofs.YtfjipoijbmmjcaaGreatDoor
open Go.RowKit Go.Shelf
set_option linter.unusedVariables false
set_option linter.unusedSimpArgs false
attribute [local go_sem] Oper.semAt_some

theorem scope_in {n : Nat} {P : Program} {Q : Exit → Act → World → Prop} {a : Act} {w : World} {c : Code} (h : c.wpIn Fence.wide n P (Exit.noGoto Q) a w) : (Code.scope c).wpIn Fence.wide n P Q a w := wpIn_wide.2 (wp_scope_straight (wpIn_wide.1 h))
theorem rest_nil {s : ByteArray} {ys rest : List ByteArray} (h : ys = linesB s) (h2 : linesB s = ys ++ rest) : rest = [] := by
 rw [← h] at h2
 have e := congrArg List.length h2
 rw [List.length_append] at e
 exact List.eq_nil_of_length_eq_zero (by omega)
theorem same_no {L s : ByteArray} (h : (L.toList == s.toList) = false) : ¬ L = s := by
 rintro rfl
 simp at h
theorem str_eq18 (a b : ByteArray) : (a.toList == b.toList) = decide (a = b) := by
 rw [Bool.eq_iff_iff, beq_iff_eq, decide_eq_true_iff, Lib.toList_data, Lib.toList_data]
 exact ⟨fun h => by cases a; cases b; simp only [Array.toList_inj] at h; rw [h], fun h => by rw [h]⟩
theorem same_yes {L s : ByteArray} {l : List UInt8} (h : (L.toList == s.toList) = true) (hL : (⟨l.toArray⟩ : ByteArray) = L) : l = s.data.toList := by
 rw [str_eq18, decide_eq_true_eq] at h
 rw [← h, ← hL]
abbrev nilS : Value := .slice none 0 0
inductive ReadE (w : World) (s : ByteArray) (e : Ending) (w' : World) : Prop
 | no (xs rest : List ByteArray) (ok : Bool) (ps : List Pr) (is : List Int) (ts : List ByteArray) (hx : linesB s = xs ++ rest) (hr : Runs xs ok ps is ts) (hok : ok = true → rest = []) (he : Ext w w')
   (h : e = .returned (.tuple #[.agg #[nilS, nilS, nilS], .int .i64 280])) (hn : ¬ (ok = true ∧ chkP (pgOf ⟨ps, is, ts⟩) = true ∧ listL ⟨ps, is, ts⟩ = s.data.toList))
 | yes (ps : List Pr) (is : List Int) (ts : List ByteArray) (vp vi vt : Value) (hr : Runs (linesB s) true ps is ts) (he : Ext w w') (h : e = .returned (.tuple #[.agg #[vp, vi, vt], .int .i64 0])) (hp : PfAt w' vp vi vt ⟨ps, is, ts⟩) (hb : Bd ps is ts)
   (hk : chkP (pgOf ⟨ps, is, ts⟩) = true) (hl : listL ⟨ps, is, ts⟩ = s.data.toList)
def ListV (p : Pf) (L : ByteArray) (n : Int) : Prop := (chkP (pgOf p) = true ∧ L = ⟨(listL p).toArray⟩ ∧ n = 0) ∨ (chkP (pgOf p) = false ∧ n = 2)
theorem list_some (p : Pf) (vp vi vt : Value) (w : World) (ht : Pow w) (hp : PfAt w vp vi vt p) (hb : Bd p.ps p.is p.ts) :
  ∃ L n, ListV p L n ∧ Calls Tryz.prog 7 #[.agg #[vp, vi, vt]] w fun e w' => e = .returned (.tuple #[.string L, .int .i64 n]) ∧ Ext w w' := by
 cases hk : chkP (pgOf p)
 ·exact ⟨_, _, .inr ⟨hk, rfl⟩, list_no p vp vi vt w hp hb.few (fun s hs => Nat.le_trans (hb.ts s hs) (by omega)) hk⟩
 ·exact ⟨_, _, .inl ⟨hk, rfl, rfl⟩, list_all p vp vi vt w ht hp hb.few hb.pr hb.is hb.ts hk⟩
set_option maxRecDepth 100000 in
set_option maxHeartbeats 4000000 in
theorem read_any (w : World) (s : ByteArray) (hF : Fits s) (hL : LLaid w) : Calls Tryz.prog 9 #[.string s] w (ReadE w s) := by
 have HF := Lib.hid hF
 have HL := Lib.hid hL
 clear hF hL
 refine (callsIn_wide (n := 4)).1 ?_
 refine callsIn_of_wp_marks Tryz.func9 rfl trivial ?_ rfl
 simp only [Tryz.ntmps9, List.size_toArray, List.length_cons, List.length_nil, Nat.reduceAdd, Nat.reduceSub, Array.replicate_succ, Array.replicate_zero, List.push_toArray, List.append_toArray, List.nil_append, List.cons_append]
 gi_wp2
 refine scope_in ?_
 gi_wp2
 refine wpIn_label ?_
 gi_wp2
 refine ⟨trivial, (lines_in 3 s _).mono ?_⟩
 rintro e w' ⟨rfl, rfl⟩
 gi_wp2
 obtain ⟨W0, hW0⟩ : ∃ W0, ((((w.alloc (.cells #[nilS, nilS, nilS] 26)).alloc (.cells #[nilS, nilS, nilS] 26)).alloc (.cells #[.bool true] 4)).alloc (.cells #[.string s] 9)) = W0 := ⟨_, rfl⟩
 have HE0 : Hid (Ext w W0) := Lib.hid (by rw [← hW0]; exact ((((Ext.refl w).alloc _).alloc _).alloc _).alloc _)
 have hsz0 : W0.heap.size = w.heap.size + 4 := by rw [← hW0]; simp
 have hb3 : Hid (Blk W0 (w.heap.size + 3) 9 #[.string s]) := Lib.hid (by rw [← hW0]; exact new_at (by simp) _)
 have hI0 : Hid (RdA w s true [] W0) := Lib.hid (by
  refine ⟨HE0.out, ?_, ?_, ⟨_, hb3.out⟩, ⟨[], [], [], nilS, nilS, nilS, ⟨?_, World.ownsRow_nil _ _ _ _, World.ownsRow_nil _ _ _ _, World.ownsRow_nil _ _ _ _, (fun c hc => by cases hc), List.Pairwise.nil⟩, .nil⟩, ⟨_, rfl⟩⟩
  ·rw [← hW0]; exact (((Blk.new w _ _).alloc _).alloc _).alloc _
  ·rw [← hW0]; exact (show Blk _ (w.heap.size + 2) _ _ from new_at (by simp) _ : Blk _ _ 4 #[.bool true]).alloc _
  ·rw [← hW0]; exact ((show Blk _ (w.heap.size + 1) _ _ from new_at (by simp) _ : Blk _ _ 26 #[nilS, nilS, nilS]).alloc _).alloc _)
 show Code.wpIn _ _ _ _ _ _ ((((w.alloc (.cells #[nilS, nilS, nilS] 26)).alloc (.cells #[nilS, nilS, nilS] 26)).alloc (.cells #[.bool true] 4)).alloc (.cells #[.string s] 9))
 rw [hW0]
 clear hW0
 refine wpIn_rangeFunc_B rfl (by omega) (gf := 38) (lb := #[.pointer (some ⟨w.heap.size + 3, 0, none⟩)]) rfl trivial (enters_of Tryz.func38 (by kernel_rfl) rfl)
  (line_in 3 (by omega) w.heap.size (w.heap.size + 3) s HF.out.size W0 (by omega) (by omega) (by omega) hb3.out)
  KpB.t (KpB.b (by omega) (by omega)) (Below.refl _ _) (fun _ => rfl)
  (RdA w s true) (fun c xs W => c = .exit 0 ∧ RdA w s false xs W) ?own ?ownx hI0.out (by omega) (fun pre W v h => h.boxed v)
  (fun x a' _ => a' = { tmps := #[.string s, undef, .pointer (some ⟨w.heap.size, 0, none⟩), .int .i64 0, .pointer (some ⟨w.heap.size + 1, 0, none⟩), .pointer (some ⟨w.heap.size + 1 + 1, 0, none⟩), .string x, undef, undef, .string s, .func (.func 38) #[] #[.pointer (some ⟨w.heap.size + 1 + 1 + 1, 0, none⟩)], .string x, undef, undef, undef, undef, undef, undef, undef, undef, undef, undef, undef, undef, undef, undef, undef, undef, undef, undef, undef, undef, undef, undef, undef, undef, undef, undef, undef], defers := [] })
  (fun _ _ _ _ _ hs _ _ => hs) ?assign ?body ?done ?stop
 case own =>
  rintro pre X Y row h hg hr
  exact h.other hg (fun r e => ⟨by have := (hr r e).1; omega, (hr r e).2⟩)
 case ownx =>
  rintro c pre X Y row ⟨hc, h⟩ hg hr
  exact ⟨hc, h.other hg (fun r e => ⟨by have := (hr r e).1; omega, (hr r e).2⟩)⟩
 case assign =>
  intro l pre x W K hI hR hK
  gi_wp2
  exact hK _ _ (KeepsFrom.refl _ _) ⟨Below.refl _ _, rfl⟩ hI rfl
 case body =>
  rintro l pre x a' W hI hR rfl
  have hmem : x ∈ linesB s := by obtain ⟨rest, h⟩ := hR; rw [h]; simp
  have hxs := HF.out.line x hmem
  have cH : Calls Tryz.prog 22 #[.string x, .string ⟨#[10]⟩] W fun e w' => e = .returned (.bool (endsNl x)) ∧ w' = W := Tryz.strings_HasSuffix x ⟨#[10]⟩ W (by omega)
  have c5 : W.cell? ⟨w.heap.size + 1 + 1, 0, none⟩ = some (.bool true) := hI.fine.cell 0
  have f5 : W.frozen? ⟨w.heap.size + 1 + 1, 0, none⟩ = false := hI.fine.frozen 0
  have l5 : w.heap.size + 1 + 1 < W.heap.size := hI.fine.lt
  have HI := Lib.hid hI
  have HR := Lib.hid hR
  have HX := Lib.hid hxs
  clear hI hR hmem hxs
  cases hen : endsNl x with
  | false =>
   rw [hen] at cH
   have HEN := Lib.hid hen
   clear hen
   have HI2 := Lib.hid (HI.out.miss HEN.out HR.out)
   gi_wp2
   refine ⟨trivial, (callsIn_wide.2 cH).mono ?_⟩
   rintro e w' ⟨rfl, rfl⟩
   gi_wp2
   refine ⟨trivial, ?_⟩
   gi_wp2
   refine ⟨trivial, ?_⟩
   gi_wp2
   exact ⟨turn_keeps (w := w) (b := false) _ (Turn.refl _), rfl, HI2.out⟩
  | true =>
   rw [hen] at cH
   have HEN := Lib.hid hen
   clear hen
   have cT : Calls Tryz.prog 24 #[.string x, .string ⟨#[10]⟩] W fun e w' => e = .returned (.string (chop x)) ∧ w' = W := Tryz.strings_TrimSuffix x ⟨#[10]⟩ W (by have := HX.out; omega)
   obtain ⟨cs, is, ts, vp, vi, vt, hown, hrun⟩ := HI.out.own
   obtain ⟨rest, hrest⟩ := HI.out.rest
   have hbd := HF.out.bd _ _ _ _ _ _ hrest hrun
   have cA := add_any W (HL.out.ext HI.out.ext) (w.heap.size + 4) (w.heap.size + 1) (chop x) (Nat.le_trans (chop_le x) HX.out) cs is ts vp vi vt hown HI.out.size
    (by have h := hbd.few.np; have e : (pgOf ⟨cs.map (·.1), is, ts⟩).ps.length = cs.length := List.length_map ..; omega) (by have h := hbd.few.ni; have e : (pgOf ⟨cs.map (·.1), is, ts⟩).ni = is.length := rfl; omega) (by have h := hbd.few.nt; have e : (pgOf ⟨cs.map (·.1), is, ts⟩).ts = ts := rfl; rw [e] at h; omega)
    (fun c hc => by have h := hbd.few.nc c.1 (List.mem_map_of_mem (f := fun c => c.1) hc); omega)
   have HRUN := Lib.hid hrun
   clear hrun hown hrest hbd
   obtain ⟨y, hy⟩ : ∃ y, chop x = y := ⟨_, rfl⟩
   rw [hy] at cT cA
   have HY := Lib.hid hy
   clear hy
   gi_wp2
   refine ⟨trivial, (callsIn_wide.2 cH).mono ?_⟩
   rintro e w' ⟨rfl, rfl⟩
   gi_wp2
   refine ⟨trivial, (callsIn_wide.2 cT).mono ?_⟩
   rintro e w'' ⟨rfl, rfl⟩
   gi_wp2
   refine ⟨trivial, (callsIn_wide.2 cA).mono ?_⟩
   rintro e W3 ⟨ok', cs', is', ts', vp', vi', vt', rfl, ho3, ht3, ha3⟩
   have HI3 := Lib.hid (HI.out.hit HRUN.out ho3 ht3 (by rw [HY.out]; exact ha3.out) HEN.out HR.out)
   have HK3 := Lib.hid (turn_kp (b := ok') HI.out ht3)
   have HT3 := Lib.hid (turn_keeps (b := ok') W0.heap.size ht3)
   have HB5 : Hid (Blk W3 (w.heap.size + 2) 4 #[.bool true]) := Lib.hid ((ht3.low _ (by have := HI.out.size; omega) (by omega) (by omega)).trans HI.out.fine)
   have k5 : W3.cell? ⟨w.heap.size + 1 + 1, 0, none⟩ = some (.bool true) := HB5.out.cell 0
   have g5 : W3.frozen? ⟨w.heap.size + 1 + 1, 0, none⟩ = false := HB5.out.frozen 0
   have m5 : w.heap.size + 1 + 1 < W3.heap.size := HB5.out.lt
   clear ho3 ht3 ha3
   cases ok' with
   | true =>
    gi_wp2
    exact ⟨HT3.out, HK3.out, trivial, HI3.out⟩
   | false =>
    gi_wp2
    exact ⟨HT3.out, rfl, HI3.out⟩
 case done =>
  rintro D ys W hD hys hI hK
  obtain ⟨cs, is, ts, vp, vi, vt, hown, hrun⟩ := hI.own
  obtain ⟨q1, n1, k1, rfl⟩ : ∃ q n c, vp = .slice q n c := by obtain ⟨q, c, h, _⟩ := row_at hown.ps; exact ⟨_, _, _, h⟩
  obtain ⟨q2, n2, k2, rfl⟩ : ∃ q n c, vi = .slice q n c := by obtain ⟨q, c, h, _⟩ := row_at hown.is; exact ⟨_, _, _, h⟩
  obtain ⟨q3, n3, k3, rfl⟩ : ∃ q n c, vt = .slice q n c := by obtain ⟨q, c, h, _⟩ := row_at hown.ts; exact ⟨_, _, _, h⟩
  obtain ⟨rest, hrest⟩ := hI.rest
  have hbd := HF.out.bd _ _ _ _ _ _ hrest hrun
  have hpf := hown.pf hbd
  obtain ⟨L, nn, hv, cL⟩ := list_some ⟨cs.map (·.1), is, ts⟩ (.slice q1 n1 k1) (.slice q2 n2 k2) (.slice q3 n3 k3) W (HL.out.ext hI.ext).pow hpf hbd
  have c0 : W.cell? ⟨w.heap.size + 1, 0, none⟩ = some (.slice q1 n1 k1) := hown.blk.cell 0
  have c1 : W.cell? ⟨w.heap.size + 1, 1, none⟩ = some (.slice q2 n2 k2) := hown.blk.cell 1
  have c2 : W.cell? ⟨w.heap.size + 1, 2, none⟩ = some (.slice q3 n3 k3) := hown.blk.cell 2
  have HI := Lib.hid hI
  have HO := Lib.hid hown
  have HRUN := Lib.hid hrun
  have HREST := Lib.hid hrest
  have HBD := Lib.hid hbd
  have HPF := Lib.hid hpf
  have HV := Lib.hid hv
  have HD := Lib.hid hK
  have HYS := Lib.hid hys
  clear hys
  clear hI hown hrun hrest hbd hpf hv hK
  gi_wp2
  refine ⟨trivial, (callsIn_wide.2 cL).mono ?_⟩
  rintro e W1 ⟨rfl, hE1⟩
  have hE1' : Ext W W1 := hE1
  have c5 : W1.cell? ⟨w.heap.size + 1 + 1, 0, none⟩ = some (.bool true) := (HI.out.fine.ext hE1').cell 0
  have e0 : W1.cell? ⟨w.heap.size + 1, 0, none⟩ = some (.slice q1 n1 k1) := (HO.out.blk.ext hE1').cell 0
  have e1 : W1.cell? ⟨w.heap.size + 1, 1, none⟩ = some (.slice q2 n2 k2) := (HO.out.blk.ext hE1').cell 1
  have e2 : W1.cell? ⟨w.heap.size + 1, 2, none⟩ = some (.slice q3 n3 k3) := (HO.out.blk.ext hE1').cell 2
  have r0 : W1.cell? ⟨w.heap.size, 0, none⟩ = some nilS := (HI.out.res.ext hE1').cell 0
  have r1 : W1.cell? ⟨w.heap.size, 1, none⟩ = some nilS := (HI.out.res.ext hE1').cell 1
  have r2 : W1.cell? ⟨w.heap.size, 2, none⟩ = some nilS := (HI.out.res.ext hE1').cell 2
  have f0 : W1.frozen? ⟨w.heap.size, 0, none⟩ = false := (HI.out.res.ext hE1').frozen 0
  have f1 : W1.frozen? ⟨w.heap.size, 1, none⟩ = false := (HI.out.res.ext hE1').frozen 1
  have f2 : W1.frozen? ⟨w.heap.size, 2, none⟩ = false := (HI.out.res.ext hE1').frozen 2
  have m0 : w.heap.size < W1.heap.size := (HI.out.res.ext hE1').lt
  have HE1 := Lib.hid hE1'
  clear hE1 hE1'
  rcases HV.out with ⟨hv1, rfl, rfl⟩ | ⟨hv1, rfl⟩
  ·have HV1 := Lib.hid hv1
   clear hv1
   obtain ⟨L, hL0⟩ : ∃ L : ByteArray, (⟨(listL ⟨cs.map (·.1), is, ts⟩).toArray⟩ : ByteArray) = L := ⟨_, rfl⟩
   have HL0 := Lib.hid hL0
   rw [hL0]
   clear hL0
   cases hcmp : (L.toList == s.toList)
   ·have HCMP := Lib.hid hcmp
    gi_wp2
    have hK3 : (((W1.setCell ⟨w.heap.size, 0, none⟩ nilS).setCell ⟨w.heap.size, 1, none⟩ nilS).setCell ⟨w.heap.size, 2, none⟩ nilS).heap[D]? = some (.deferred (some [])) :=
     (((KeepsOthers.setCell W1 ⟨w.heap.size, 0, none⟩ nilS).trans (KeepsOthers.setCell _ ⟨w.heap.size, 1, none⟩ nilS)).trans (KeepsOthers.setCell _ ⟨w.heap.size, 2, none⟩ nilS)).same D _ ((oth_ext HE1.out).same D _ HD.out rfl) rfl
    have hB3 : Blk (((W1.setCell ⟨w.heap.size, 0, none⟩ nilS).setCell ⟨w.heap.size, 1, none⟩ nilS).setCell ⟨w.heap.size, 2, none⟩ nilS) w.heap.size 26 #[nilS, nilS, nilS] := (((HI.out.res.ext HE1.out).set_ 0 nilS).set_ 1 nilS).set_ 2 nilS
    have hE3 : Ext w (((W1.setCell ⟨w.heap.size, 0, none⟩ nilS).setCell ⟨w.heap.size, 1, none⟩ nilS).setCell ⟨w.heap.size, 2, none⟩ nilS) := (((HI.out.ext.trans HE1.out).setCell (p := ⟨w.heap.size, 0, none⟩) (Nat.le_refl _) nilS).setCell (p := ⟨w.heap.size, 1, none⟩) (Nat.le_refl _) nilS).setCell (p := ⟨w.heap.size, 2, none⟩) (Nat.le_refl _) nilS
    have hO3 : OwnPg (((W1.setCell ⟨w.heap.size, 0, none⟩ nilS).setCell ⟨w.heap.size, 1, none⟩ nilS).setCell ⟨w.heap.size, 2, none⟩ nilS) (w.heap.size + 4) (w.heap.size + 1) cs is ts (.slice q1 n1 k1) (.slice q2 n2 k2) (.slice q3 n3 k3) := (HO.out.ext HE1.out).keep fun k c t hB hb =>
     (heap_setCell_other _ ⟨w.heap.size, 2, none⟩ k nilS (by show k ≠ w.heap.size; omega)).trans ((heap_setCell_other _ ⟨w.heap.size, 1, none⟩ k nilS (by show k ≠ w.heap.size; omega)).trans ((heap_setCell_other _ ⟨w.heap.size, 0, none⟩ k nilS (by show k ≠ w.heap.size; omega)).trans hb))
    rw [Exit.noGoto_ret]
    obtain ⟨W3, hW3⟩ : ∃ W3, (((W1.setCell ⟨w.heap.size, 0, none⟩ nilS).setCell ⟨w.heap.size, 1, none⟩ nilS).setCell ⟨w.heap.size, 2, none⟩ nilS) = W3 := ⟨_, rfl⟩
    rw [hW3] at hK3 hB3 hE3 hO3 ⊢
    clear hW3
    refine ⟨by simp, .inl ⟨_, _, rfl, run_takeDeferred hK3, ?_⟩⟩
    have hD4 : ∀ k, k ≠ D → (W3.putObj D (.deferred none)).heap[k]? = W3.heap[k]? := fun k hk => World.putObj_heap_other (fun e => hk (by omega))
    have hB4 : Blk (W3.putObj D (.deferred none)) w.heap.size 26 #[nilS, nilS, nilS] := (hD4 _ (by omega)).trans hB3
    have hE4 : Ext w (W3.putObj D (.deferred none)) := hE3.grown (grownBy_putObj' W3 D (.deferred none)) (fun r e => by cases e; omega)
    have hO4 : OwnPg (W3.putObj D (.deferred none)) (w.heap.size + 4) (w.heap.size + 1) cs is ts (.slice q1 n1 k1) (.slice q2 n2 k2) (.slice q3 n3 k3) := hO3.keep fun k c t hB hb => (hD4 k (fun e => by rw [e, hK3] at hb; cases hb)).trans hb
    have y0 : (W3.putObj D (.deferred none)).cell? ⟨w.heap.size, 0, none⟩ = some nilS := hB4.cell 0
    have y1 : (W3.putObj D (.deferred none)).cell? ⟨w.heap.size, 1, none⟩ = some nilS := hB4.cell 1
    have y2 : (W3.putObj D (.deferred none)).cell? ⟨w.heap.size, 2, none⟩ = some nilS := hB4.cell 2
    refine ⟨.tuple #[.agg #[nilS, nilS, nilS], .int .i64 280], ?_, ?_⟩
    ·simp [results, Tryz.f9, go_sem, y0, y1, y2]
    ·exact .no ys rest true _ is ts HREST.out HRUN.out (fun _ => rest_nil HYS.out HREST.out) hE4 rfl (fun h => same_no HCMP.out (by rw [← HL0.out, h.2.2]))
   ·have HCMP := Lib.hid hcmp
    gi_wp2
    have hK3 : (((W1.setCell ⟨w.heap.size, 0, none⟩ (.slice q1 n1 k1)).setCell ⟨w.heap.size, 1, none⟩ (.slice q2 n2 k2)).setCell ⟨w.heap.size, 2, none⟩ (.slice q3 n3 k3)).heap[D]? = some (.deferred (some [])) :=
     (((KeepsOthers.setCell W1 ⟨w.heap.size, 0, none⟩ (.slice q1 n1 k1)).trans (KeepsOthers.setCell _ ⟨w.heap.size, 1, none⟩ (.slice q2 n2 k2))).trans (KeepsOthers.setCell _ ⟨w.heap.size, 2, none⟩ (.slice q3 n3 k3))).same D _ ((oth_ext HE1.out).same D _ HD.out rfl) rfl
    have hB3 : Blk (((W1.setCell ⟨w.heap.size, 0, none⟩ (.slice q1 n1 k1)).setCell ⟨w.heap.size, 1, none⟩ (.slice q2 n2 k2)).setCell ⟨w.heap.size, 2, none⟩ (.slice q3 n3 k3)) w.heap.size 26 #[(.slice q1 n1 k1), (.slice q2 n2 k2), (.slice q3 n3 k3)] := (((HI.out.res.ext HE1.out).set_ 0 (.slice q1 n1 k1)).set_ 1 (.slice q2 n2 k2)).set_ 2 (.slice q3 n3 k3)
    have hE3 : Ext w (((W1.setCell ⟨w.heap.size, 0, none⟩ (.slice q1 n1 k1)).setCell ⟨w.heap.size, 1, none⟩ (.slice q2 n2 k2)).setCell ⟨w.heap.size, 2, none⟩ (.slice q3 n3 k3)) := (((HI.out.ext.trans HE1.out).setCell (p := ⟨w.heap.size, 0, none⟩) (Nat.le_refl _) (.slice q1 n1 k1)).setCell (p := ⟨w.heap.size, 1, none⟩) (Nat.le_refl _) (.slice q2 n2 k2)).setCell (p := ⟨w.heap.size, 2, none⟩) (Nat.le_refl _) (.slice q3 n3 k3)
    have hO3 : OwnPg (((W1.setCell ⟨w.heap.size, 0, none⟩ (.slice q1 n1 k1)).setCell ⟨w.heap.size, 1, none⟩ (.slice q2 n2 k2)).setCell ⟨w.heap.size, 2, none⟩ (.slice q3 n3 k3)) (w.heap.size + 4) (w.heap.size + 1) cs is ts (.slice q1 n1 k1) (.slice q2 n2 k2) (.slice q3 n3 k3) := (HO.out.ext HE1.out).keep fun k c t hB hb =>
     (heap_setCell_other _ ⟨w.heap.size, 2, none⟩ k (.slice q3 n3 k3) (by show k ≠ w.heap.size; omega)).trans ((heap_setCell_other _ ⟨w.heap.size, 1, none⟩ k (.slice q2 n2 k2) (by show k ≠ w.heap.size; omega)).trans ((heap_setCell_other _ ⟨w.heap.size, 0, none⟩ k (.slice q1 n1 k1) (by show k ≠ w.heap.size; omega)).trans hb))
    rw [Exit.noGoto_ret]
    obtain ⟨W3, hW3⟩ : ∃ W3, (((W1.setCell ⟨w.heap.size, 0, none⟩ (.slice q1 n1 k1)).setCell ⟨w.heap.size, 1, none⟩ (.slice q2 n2 k2)).setCell ⟨w.heap.size, 2, none⟩ (.slice q3 n3 k3)) = W3 := ⟨_, rfl⟩
    rw [hW3] at hK3 hB3 hE3 hO3 ⊢
    clear hW3
    refine ⟨by simp, .inl ⟨_, _, rfl, run_takeDeferred hK3, ?_⟩⟩
    have hD4 : ∀ k, k ≠ D → (W3.putObj D (.deferred none)).heap[k]? = W3.heap[k]? := fun k hk => World.putObj_heap_other (fun e => hk (by omega))
    have hB4 : Blk (W3.putObj D (.deferred none)) w.heap.size 26 #[(.slice q1 n1 k1), (.slice q2 n2 k2), (.slice q3 n3 k3)] := (hD4 _ (by omega)).trans hB3
    have hE4 : Ext w (W3.putObj D (.deferred none)) := hE3.grown (grownBy_putObj' W3 D (.deferred none)) (fun r e => by cases e; omega)
    have hO4 : OwnPg (W3.putObj D (.deferred none)) (w.heap.size + 4) (w.heap.size + 1) cs is ts (.slice q1 n1 k1) (.slice q2 n2 k2) (.slice q3 n3 k3) := hO3.keep fun k c t hB hb => (hD4 k (fun e => by rw [e, hK3] at hb; cases hb)).trans hb
    have y0 : (W3.putObj D (.deferred none)).cell? ⟨w.heap.size, 0, none⟩ = some (.slice q1 n1 k1) := hB4.cell 0
    have y1 : (W3.putObj D (.deferred none)).cell? ⟨w.heap.size, 1, none⟩ = some (.slice q2 n2 k2) := hB4.cell 1
    have y2 : (W3.putObj D (.deferred none)).cell? ⟨w.heap.size, 2, none⟩ = some (.slice q3 n3 k3) := hB4.cell 2
    refine ⟨.tuple #[.agg #[(.slice q1 n1 k1), (.slice q2 n2 k2), (.slice q3 n3 k3)], .int .i64 0], ?_, ?_⟩
    ·simp [results, Tryz.f9, go_sem, y0, y1, y2]
    ·exact .yes _ is ts _ _ _ (by rw [← HYS.out]; exact HRUN.out) hE4 rfl (hO4.pf HBD.out) HBD.out HV1.out (by rw [same_yes HCMP.out HL0.out])
  ·have HV1 := Lib.hid hv1
   clear hv1
   gi_wp2
   have hK3 : (((W1.setCell ⟨w.heap.size, 0, none⟩ nilS).setCell ⟨w.heap.size, 1, none⟩ nilS).setCell ⟨w.heap.size, 2, none⟩ nilS).heap[D]? = some (.deferred (some [])) :=
    (((KeepsOthers.setCell W1 ⟨w.heap.size, 0, none⟩ nilS).trans (KeepsOthers.setCell _ ⟨w.heap.size, 1, none⟩ nilS)).trans (KeepsOthers.setCell _ ⟨w.heap.size, 2, none⟩ nilS)).same D _ ((oth_ext HE1.out).same D _ HD.out rfl) rfl
   have hB3 : Blk (((W1.setCell ⟨w.heap.size, 0, none⟩ nilS).setCell ⟨w.heap.size, 1, none⟩ nilS).setCell ⟨w.heap.size, 2, none⟩ nilS) w.heap.size 26 #[nilS, nilS, nilS] := (((HI.out.res.ext HE1.out).set_ 0 nilS).set_ 1 nilS).set_ 2 nilS
   have hE3 : Ext w (((W1.setCell ⟨w.heap.size, 0, none⟩ nilS).setCell ⟨w.heap.size, 1, none⟩ nilS).setCell ⟨w.heap.size, 2, none⟩ nilS) := (((HI.out.ext.trans HE1.out).setCell (p := ⟨w.heap.size, 0, none⟩) (Nat.le_refl _) nilS).setCell (p := ⟨w.heap.size, 1, none⟩) (Nat.le_refl _) nilS).setCell (p := ⟨w.heap.size, 2, none⟩) (Nat.le_refl _) nilS
   have hO3 : OwnPg (((W1.setCell ⟨w.heap.size, 0, none⟩ nilS).setCell ⟨w.heap.size, 1, none⟩ nilS).setCell ⟨w.heap.size, 2, none⟩ nilS) (w.heap.size + 4) (w.heap.size + 1) cs is ts (.slice q1 n1 k1) (.slice q2 n2 k2) (.slice q3 n3 k3) := (HO.out.ext HE1.out).keep fun k c t hB hb =>
    (heap_setCell_other _ ⟨w.heap.size, 2, none⟩ k nilS (by show k ≠ w.heap.size; omega)).trans ((heap_setCell_other _ ⟨w.heap.size, 1, none⟩ k nilS (by show k ≠ w.heap.size; omega)).trans ((heap_setCell_other _ ⟨w.heap.size, 0, none⟩ k nilS (by show k ≠ w.heap.size; omega)).trans hb))
   rw [Exit.noGoto_ret]
   obtain ⟨W3, hW3⟩ : ∃ W3, (((W1.setCell ⟨w.heap.size, 0, none⟩ nilS).setCell ⟨w.heap.size, 1, none⟩ nilS).setCell ⟨w.heap.size, 2, none⟩ nilS) = W3 := ⟨_, rfl⟩
   rw [hW3] at hK3 hB3 hE3 hO3 ⊢
   clear hW3
   refine ⟨by simp, .inl ⟨_, _, rfl, run_takeDeferred hK3, ?_⟩⟩
   have hD4 : ∀ k, k ≠ D → (W3.putObj D (.deferred none)).heap[k]? = W3.heap[k]? := fun k hk => World.putObj_heap_other (fun e => hk (by omega))
   have hB4 : Blk (W3.putObj D (.deferred none)) w.heap.size 26 #[nilS, nilS, nilS] := (hD4 _ (by omega)).trans hB3
   have hE4 : Ext w (W3.putObj D (.deferred none)) := hE3.grown (grownBy_putObj' W3 D (.deferred none)) (fun r e => by cases e; omega)
   have hO4 : OwnPg (W3.putObj D (.deferred none)) (w.heap.size + 4) (w.heap.size + 1) cs is ts (.slice q1 n1 k1) (.slice q2 n2 k2) (.slice q3 n3 k3) := hO3.keep fun k c t hB hb => (hD4 k (fun e => by rw [e, hK3] at hb; cases hb)).trans hb
   have y0 : (W3.putObj D (.deferred none)).cell? ⟨w.heap.size, 0, none⟩ = some nilS := hB4.cell 0
   have y1 : (W3.putObj D (.deferred none)).cell? ⟨w.heap.size, 1, none⟩ = some nilS := hB4.cell 1
   have y2 : (W3.putObj D (.deferred none)).cell? ⟨w.heap.size, 2, none⟩ = some nilS := hB4.cell 2
   refine ⟨.tuple #[.agg #[nilS, nilS, nilS], .int .i64 280], ?_, ?_⟩
   ·simp [results, Tryz.f9, go_sem, y0, y1, y2]
   ·exact .no ys rest true _ is ts HREST.out HRUN.out (fun _ => rest_nil HYS.out HREST.out) hE4 rfl (fun h => by rw [HV1.out] at h; cases h.2.1)
 case stop =>
  rintro D c ys W hD _ ⟨rfl, hI⟩ hK
  obtain ⟨cs, is, ts, vp, vi, vt, hown, hrun⟩ := hI.own
  obtain ⟨q1, n1, k1, rfl⟩ : ∃ q n c, vp = .slice q n c := by obtain ⟨q, c, h, _⟩ := row_at hown.ps; exact ⟨_, _, _, h⟩
  obtain ⟨q2, n2, k2, rfl⟩ : ∃ q n c, vi = .slice q n c := by obtain ⟨q, c, h, _⟩ := row_at hown.is; exact ⟨_, _, _, h⟩
  obtain ⟨q3, n3, k3, rfl⟩ : ∃ q n c, vt = .slice q n c := by obtain ⟨q, c, h, _⟩ := row_at hown.ts; exact ⟨_, _, _, h⟩
  obtain ⟨rest, hrest⟩ := hI.rest
  have hbd := HF.out.bd _ _ _ _ _ _ hrest hrun
  have hpf := hown.pf hbd
  obtain ⟨L, nn, hv, cL⟩ := list_some ⟨cs.map (·.1), is, ts⟩ (.slice q1 n1 k1) (.slice q2 n2 k2) (.slice q3 n3 k3) W (HL.out.ext hI.ext).pow hpf hbd
  have c0 : W.cell? ⟨w.heap.size + 1, 0, none⟩ = some (.slice q1 n1 k1) := hown.blk.cell 0
  have c1 : W.cell? ⟨w.heap.size + 1, 1, none⟩ = some (.slice q2 n2 k2) := hown.blk.cell 1
  have c2 : W.cell? ⟨w.heap.size + 1, 2, none⟩ = some (.slice q3 n3 k3) := hown.blk.cell 2
  have HI := Lib.hid hI
  have HO := Lib.hid hown
  have HRUN := Lib.hid hrun
  have HREST := Lib.hid hrest
  have HBD := Lib.hid hbd
  have HPF := Lib.hid hpf
  have HV := Lib.hid hv
  have HD := Lib.hid hK
  skip
  clear hI hown hrun hrest hbd hpf hv hK
  gi_wp2
  refine ⟨trivial, (callsIn_wide.2 cL).mono ?_⟩
  rintro e W1 ⟨rfl, hE1⟩
  have hE1' : Ext W W1 := hE1
  have c5 : W1.cell? ⟨w.heap.size + 1 + 1, 0, none⟩ = some (.bool false) := (HI.out.fine.ext hE1').cell 0
  have e0 : W1.cell? ⟨w.heap.size + 1, 0, none⟩ = some (.slice q1 n1 k1) := (HO.out.blk.ext hE1').cell 0
  have e1 : W1.cell? ⟨w.heap.size + 1, 1, none⟩ = some (.slice q2 n2 k2) := (HO.out.blk.ext hE1').cell 1
  have e2 : W1.cell? ⟨w.heap.size + 1, 2, none⟩ = some (.slice q3 n3 k3) := (HO.out.blk.ext hE1').cell 2
  have r0 : W1.cell? ⟨w.heap.size, 0, none⟩ = some nilS := (HI.out.res.ext hE1').cell 0
  have r1 : W1.cell? ⟨w.heap.size, 1, none⟩ = some nilS := (HI.out.res.ext hE1').cell 1
  have r2 : W1.cell? ⟨w.heap.size, 2, none⟩ = some nilS := (HI.out.res.ext hE1').cell 2
  have f0 : W1.frozen? ⟨w.heap.size, 0, none⟩ = false := (HI.out.res.ext hE1').frozen 0
  have f1 : W1.frozen? ⟨w.heap.size, 1, none⟩ = false := (HI.out.res.ext hE1').frozen 1
  have f2 : W1.frozen? ⟨w.heap.size, 2, none⟩ = false := (HI.out.res.ext hE1').frozen 2
  have m0 : w.heap.size < W1.heap.size := (HI.out.res.ext hE1').lt
  have HE1 := Lib.hid hE1'
  clear hE1 hE1'
  gi_wp2
  have hK3 : (((W1.setCell ⟨w.heap.size, 0, none⟩ nilS).setCell ⟨w.heap.size, 1, none⟩ nilS).setCell ⟨w.heap.size, 2, none⟩ nilS).heap[D]? = some (.deferred (some [])) :=
   (((KeepsOthers.setCell W1 ⟨w.heap.size, 0, none⟩ nilS).trans (KeepsOthers.setCell _ ⟨w.heap.size, 1, none⟩ nilS)).trans (KeepsOthers.setCell _ ⟨w.heap.size, 2, none⟩ nilS)).same D _ ((oth_ext HE1.out).same D _ HD.out rfl) rfl
  have hB3 : Blk (((W1.setCell ⟨w.heap.size, 0, none⟩ nilS).setCell ⟨w.heap.size, 1, none⟩ nilS).setCell ⟨w.heap.size, 2, none⟩ nilS) w.heap.size 26 #[nilS, nilS, nilS] := (((HI.out.res.ext HE1.out).set_ 0 nilS).set_ 1 nilS).set_ 2 nilS
  have hE3 : Ext w (((W1.setCell ⟨w.heap.size, 0, none⟩ nilS).setCell ⟨w.heap.size, 1, none⟩ nilS).setCell ⟨w.heap.size, 2, none⟩ nilS) := (((HI.out.ext.trans HE1.out).setCell (p := ⟨w.heap.size, 0, none⟩) (Nat.le_refl _) nilS).setCell (p := ⟨w.heap.size, 1, none⟩) (Nat.le_refl _) nilS).setCell (p := ⟨w.heap.size, 2, none⟩) (Nat.le_refl _) nilS
  have hO3 : OwnPg (((W1.setCell ⟨w.heap.size, 0, none⟩ nilS).setCell ⟨w.heap.size, 1, none⟩ nilS).setCell ⟨w.heap.size, 2, none⟩ nilS) (w.heap.size + 4) (w.heap.size + 1) cs is ts (.slice q1 n1 k1) (.slice q2 n2 k2) (.slice q3 n3 k3) := (HO.out.ext HE1.out).keep fun k c t hB hb =>
   (heap_setCell_other _ ⟨w.heap.size, 2, none⟩ k nilS (by show k ≠ w.heap.size; omega)).trans ((heap_setCell_other _ ⟨w.heap.size, 1, none⟩ k nilS (by show k ≠ w.heap.size; omega)).trans ((heap_setCell_other _ ⟨w.heap.size, 0, none⟩ k nilS (by show k ≠ w.heap.size; omega)).trans hb))
  rw [Exit.noGoto_ret]
  obtain ⟨W3, hW3⟩ : ∃ W3, (((W1.setCell ⟨w.heap.size, 0, none⟩ nilS).setCell ⟨w.heap.size, 1, none⟩ nilS).setCell ⟨w.heap.size, 2, none⟩ nilS) = W3 := ⟨_, rfl⟩
  rw [hW3] at hK3 hB3 hE3 hO3 ⊢
  clear hW3
  refine ⟨by simp, .inl ⟨_, _, rfl, run_takeDeferred hK3, ?_⟩⟩
  have hD4 : ∀ k, k ≠ D → (W3.putObj D (.deferred none)).heap[k]? = W3.heap[k]? := fun k hk => World.putObj_heap_other (fun e => hk (by omega))
  have hB4 : Blk (W3.putObj D (.deferred none)) w.heap.size 26 #[nilS, nilS, nilS] := (hD4 _ (by omega)).trans hB3
  have hE4 : Ext w (W3.putObj D (.deferred none)) := hE3.grown (grownBy_putObj' W3 D (.deferred none)) (fun r e => by cases e; omega)
  have hO4 : OwnPg (W3.putObj D (.deferred none)) (w.heap.size + 4) (w.heap.size + 1) cs is ts (.slice q1 n1 k1) (.slice q2 n2 k2) (.slice q3 n3 k3) := hO3.keep fun k c t hB hb => (hD4 k (fun e => by rw [e, hK3] at hb; cases hb)).trans hb
  have y0 : (W3.putObj D (.deferred none)).cell? ⟨w.heap.size, 0, none⟩ = some nilS := hB4.cell 0
  have y1 : (W3.putObj D (.deferred none)).cell? ⟨w.heap.size, 1, none⟩ = some nilS := hB4.cell 1
  have y2 : (W3.putObj D (.deferred none)).cell? ⟨w.heap.size, 2, none⟩ = some nilS := hB4.cell 2
  refine ⟨.tuple #[.agg #[nilS, nilS, nilS], .int .i64 280], ?_, ?_⟩
  ·simp [results, Tryz.f9, go_sem, y0, y1, y2]
  ·exact .no ys rest false _ is ts HREST.out HRUN.out (fun h => by cases h) hE4 rfl (fun h => by cases h.1)
end Go.Proofs.YtfjipoijbmmjcaaGreatDoor
