/- Value: its answers as they lie; the map of kinds; a text under a key. How many replies, how many bytes there may be yet. The replies of truths, numbers and texts. -/
import Derived.Test.YtlfihdcgbhdajaaGreatDoorYBwG
import Derived.Test.YtlfihdcgbhdajaaGreatDoorYB5
import Derived.Test.YtlfihdcgbhdajaaGreatDoorYA7
import Derived.Test.YtlfihdcgbhdajaaGreatDoorYA4
import Derived.BigQuiet
import Derived.Deep.RegionHeld3
namespace Go.Proofs.YtlfihdcgbhdajaaGreatDoor
open Go.RowKit
set_option linter.unusedVariables false
set_option linter.unusedSimpArgs false

def putObj (w : World) (M : Nat) (o : Obj) : World := { w with heap := w.heap.setIfInBounds M o }
theorem putObj_at {w : World} {M : Nat} (h : M < w.heap.size) (o : Obj) : (putObj w M o).heap[M]? = some o := by
 show (w.heap.setIfInBounds M o)[M]? = some o
 simp [Array.getElem?_setIfInBounds, h]
theorem putObj_only (w : World) (M : Nat) (o : Obj) : Only M w (putObj w M o) :=
 ⟨rfl, rfl, rfl, by simp [putObj], fun k hk hn => by
  have : ¬ M = k := fun e => hn (by rw [e])
  show (w.heap.setIfInBounds M o)[k]? = _
  simp [Array.getElem?_setIfInBounds, this]⟩
theorem run_insert_at {P : Program} {T K E : TypeId} {kind : TypeDesc} (hT : P.underlying T = some (.map K E)) (hK : P.underlying K = some kind) (hk : plainKind kind = true) (l : List (Value × Value)) (n : Nat) (k v : Value) (hn : n = l.length) (h : noKey kind k l = true) {w : World} {M : Nat} (hb : w.heap[M]? = some (.map (ents l 0).toArray n)) :
  (Instr.mapUpdate T (.map (some M)) k v).run P w = .ok () (putObj w M (.map (ents (l ++ [(k, v)]) 0).toArray (n + 1))) := by
 subst hn
 simp only [Instr.mapUpdate, Sem.run_bind, run_underlying hT, Result.andThen_ok, MapKept.run_getObj_map hb, run_checkKey_plain hK hk, run_findKey_plain hK (findNow_none h 0 0)]
 simp only [MapKept.run_setObj_map _ hb, List.push_toArray]
 rw [ents_append]
 simp only [Nat.zero_add]
 rfl
theorem HS.only' {w w1 w2 : World} {g : Nat} {tv tv1 : Value} {rs rs1 : List (Nat × Nat)} {H1 : Hp} (a : HS w g tv rs w1 tv1 rs1 H1) {Y : Nat} (ho : Only Y w1 w2) (hY : w.heap.size ≤ Y) (hn : ¬ Foot g tv1 rs1 Y) : HS w g tv rs w2 tv1 rs1 H1 :=
  ⟨a.heap.of_heap fun k hk => ho.block k (a.heap.low hk) (fun e => hn (Option.some.inj e ▸ hk)),
   ⟨ho.os.trans a.touch.os, ho.tape.trans a.touch.tape, ho.output.trans a.touch.output, Nat.le_trans a.touch.size ho.size, fun k hk h => (ho.block k (Nat.lt_of_lt_of_le hk a.touch.size) (fun e => by have := Option.some.inj e; omega)).trans (a.touch.block k hk h)⟩, a.foot⟩
set_option maxRecDepth 100000 in
theorem under_any (key : ByteArray) (hb sb : Nat) (w : World) : Calls Tryz.prog 28 #[.string key, .pointer (some ⟨hb, 0, none⟩), .pointer (some ⟨sb, 0, none⟩)] w fun e w' =>
  e = .returned (.func (.func 29) #[] #[.pointer (some ⟨hb, 0, none⟩), .pointer (some ⟨sb, 0, none⟩), .pointer (some ⟨w.heap.size, 0, none⟩)]) ∧ w' = w.alloc (.cells #[.string key] 9) := by
 have hmf : ∀ (fn : Fn) (first cap : Array Value) (w : World), (Instr.makeFunc fn first cap).run Tryz.prog w = .ok (.func fn first cap) w := fun _ _ _ _ => rfl
 go_enter Tryz.func28, Tryz.ntmps28
 go_wp2_with fail
 go_ret
 exact ⟨rfl, rfl⟩
theorem len_call (g : Nat) (tv : Value) (rs : List (Nat × Nat)) (H : Hp) (w : World) (h : HeapIn w g tv rs H) (h64 : H.tabs.length ≤ 9223372036854775807) :
  Calls Tryz.prog 16 #[.pointer (some ⟨g, 0, none⟩), vv 3 0 ⟨#[]⟩] w fun e w' => e = .returned (.tuple #[.int .i64 0, .string ⟨#[]⟩]) ∧ Ext w w' :=
 len_any g tv rs H ⟨3, 0, ⟨#[]⟩⟩ w h h64
theorem vface_end (W : World) (V Y : Nat) (x : Vl) (s : ByteArray) (hv : Blk W V 34 #[.int .i64 x.k, .int .i64 x.n, .string x.s]) (hy : Blk W Y 9 #[.string s]) (R : Ending → World → Prop) (hR : R (.returned (.tuple #[x.v, .string s])) W) (x0 x1 x2 x3 x6 x7 x8 x9 x10 x11 x12 x13 x14 x15 x16 x17 x18 x19 x20 x21 x22 x23 x24 x25 x26 x27 x28 x29 x30 x31 x32 x33 x34 x35 x36 x37 x38 x39 x40 : Value) :
  bodyPostD Tryz.prog Tryz.f8 R Exit.ret { tmps := #[x0, x1, x2, x3, .pointer (some ⟨V, 0, none⟩), .pointer (some ⟨Y, 0, none⟩), x6, x7, x8, x9, x10, x11, x12, x13, x14, x15, x16, x17, x18, x19, x20, x21, x22, x23, x24, x25, x26, x27, x28, x29, x30, x31, x32, x33, x34, x35, x36, x37, x38, x39, x40], defers := [] } W := by
 have d0 := hv.cell 0
 have d1 := hv.cell 1
 have d2 := hv.cell 2
 have d3 := hy.cell 0
 simp only [List.getElem?_toArray, List.getElem?_cons_zero, List.getElem?_cons_succ] at d0 d1 d2 d3
 simp [bodyPostD, Leaves, settle, results, Tryz.results8, go_sem, d0, d1, d2, d3]
 exact hR
theorem vface_done (W : World) (V Y : Nat) (x : Vl) (hv : Blk W V 34 #[.int .i64 x.k, .int .i64 x.n, .string x.s]) (hy : Blk W Y 9 #[.string ⟨#[]⟩]) (R : Ending → World → Prop) (hR : R (.returned (.tuple #[x.v, .string ⟨#[]⟩])) W) (x0 x1 x2 x3 x6 x7 x8 x9 x10 x11 x12 x13 x14 x15 x16 x17 x18 x19 x20 x21 x22 x23 x24 x25 x26 x27 x28 x29 x30 x31 x32 x33 x34 x35 x36 x37 x38 x39 x40 : Value) :
  Leaves Tryz.prog Tryz.f8 #[x0, x1, x2, x3, .pointer (some ⟨V, 0, none⟩), .pointer (some ⟨Y, 0, none⟩), x6, x7, x8, x9, x10, x11, x12, x13, x14, x15, x16, x17, x18, x19, x20, x21, x22, x23, x24, x25, x26, x27, x28, x29, x30, x31, x32, x33, x34, x35, x36, x37, x38, x39, x40] R [{ target := Target.fn (Fn.func 25) #[], args := #[.pointer (some ⟨Y, 0, none⟩)] }, { target := Target.fn (Fn.func 24) #[.pointer (some ⟨Y, 0, none⟩), .pointer (some ⟨V, 0, none⟩)], args := #[] }] .returning W := by
 have d0 := hv.cell 0
 have d1 := hv.cell 1
 have d2 := hv.cell 2
 have d3 := hy.cell 0
 simp only [List.getElem?_toArray, List.getElem?_cons_zero, List.getElem?_cons_succ] at d0 d1 d2 d3
 refine leaves_cons (f := 25) (args := #[.pointer (some ⟨Y, 0, none⟩)]) (by simp) (by simp [go_sem]) ?_
 refine (bcaught_idle _ W).mono ?_
 rintro e u' w1 ⟨rfl, rfl, rfl⟩
 show Leaves _ _ _ _ _ (settle _) w1
 have hs : settle .returning = .returning := rfl
 rw [hs]
 refine leaves_cons (f := 24) (args := #[.pointer (some ⟨Y, 0, none⟩), .pointer (some ⟨V, 0, none⟩)]) (by simp) (by simp [go_sem]) ?_
 refine (wipeV_no Y V .returning w1 hy).mono ?_
 rintro e u' w2 ⟨rfl, rfl, rfl⟩
 show Leaves _ _ _ _ _ (settle _) w2
 rw [hs]
 simp [Leaves, settle, results, Tryz.results8, go_sem, d0, d1, d2, d3]
 exact hR
theorem vface_door (W : World) (V Y : Nat) (why : ByteArray) (hw : ¬ why = sNone) (hne : ¬ V = Y) (hv : Blk W V 34 #[.int .i64 0, .int .i64 0, .string ⟨#[]⟩]) (hy : Blk W Y 9 #[.string ⟨#[]⟩]) (R : Ending → World → Prop)
  (hR : ∀ W1, Only Y W W1 → R (.returned (.tuple #[Vl.zero.v, .string why])) (((W1.setCell ⟨V, 0, none⟩ (.int .i64 0)).setCell ⟨V, 1, none⟩ (.int .i64 0)).setCell ⟨V, 2, none⟩ (.string ⟨#[]⟩))) (x0 x1 x2 x3 x6 x7 x8 x9 x10 x11 x12 x13 x14 x15 x16 x17 x18 x19 x20 x21 x22 x23 x24 x25 x26 x27 x28 x29 x30 x31 x32 x33 x34 x35 x36 x37 x38 x39 x40 : Value) :
  Leaves Tryz.prog Tryz.f8 #[x0, x1, x2, x3, .pointer (some ⟨V, 0, none⟩), .pointer (some ⟨Y, 0, none⟩), x6, x7, x8, x9, x10, x11, x12, x13, x14, x15, x16, x17, x18, x19, x20, x21, x22, x23, x24, x25, x26, x27, x28, x29, x30, x31, x32, x33, x34, x35, x36, x37, x38, x39, x40] R [{ target := Target.fn (Fn.func 25) #[], args := #[.pointer (some ⟨Y, 0, none⟩)] }, { target := Target.fn (Fn.func 24) #[.pointer (some ⟨Y, 0, none⟩), .pointer (some ⟨V, 0, none⟩)], args := #[] }] (.panicking [{ v := bfailV why, recovered := false }]) W := by
 refine leaves_cons (f := 25) (args := #[.pointer (some ⟨Y, 0, none⟩)]) (by simp) (by simp [go_sem]) ?_
 refine (bcaught_panic why ⟨#[]⟩ Y [] W hy).mono ?_
 rintro e u' w1 ⟨rfl, rfl, ho, hy1⟩
 show Leaves _ _ _ _ _ (settle _) w1
 have hs : settle (.panicking [{ v := bfailV why, recovered := true }]) = .returning := rfl
 have hs2 : settle .returning = .returning := rfl
 rw [hs]
 have hv1 : Blk w1 V 34 #[.int .i64 0, .int .i64 0, .string ⟨#[]⟩] := (ho.block V hv.lt (fun e => hne (Option.some.inj e))).trans hv
 refine leaves_cons (f := 24) (args := #[.pointer (some ⟨Y, 0, none⟩), .pointer (some ⟨V, 0, none⟩)]) (by simp) (by simp [go_sem]) ?_
 refine (wipeV_yes Y V .returning why hw w1 hy1 _ _ _ hv1).mono ?_
 rintro e u' w2 ⟨rfl, rfl, rfl⟩
 show Leaves _ _ _ _ _ (settle _) _
 rw [hs2]
 have hR1 := hR w1 ho
 have hv2 := put3 hv1 (.int .i64 0) (.int .i64 0) (.string ⟨#[]⟩)
 have hy2 : Blk (((w1.setCell ⟨V, 0, none⟩ (.int .i64 0)).setCell ⟨V, 1, none⟩ (.int .i64 0)).setCell ⟨V, 2, none⟩ (.string ⟨#[]⟩)) Y 9 #[.string why] := ((hy1.far (p := ⟨V, 0, none⟩) (fun e => hne e.symm) _).far (p := ⟨V, 1, none⟩) (fun e => hne e.symm) _).far (p := ⟨V, 2, none⟩) (fun e => hne e.symm) _
 generalize ((w1.setCell ⟨V, 0, none⟩ (.int .i64 0)).setCell ⟨V, 1, none⟩ (.int .i64 0)).setCell ⟨V, 2, none⟩ (.string ⟨#[]⟩) = W2 at hR1 hv2 hy2 ⊢
 clear hv hy hv1 hy1
 have hv := hv2
 have hy := hy2
 have d0 := hv.cell 0
 have d1 := hv.cell 1
 have d2 := hv.cell 2
 have d3 := hy.cell 0
 simp only [List.getElem?_toArray, List.getElem?_cons_zero, List.getElem?_cons_succ] at d0 d1 d2 d3
 simp [Leaves, settle, results, Tryz.results8, go_sem, d0, d1, d2, d3]
 exact hR1
end Go.Proofs.YtlfihdcgbhdajaaGreatDoor
namespace Go.Proofs.YtlfihdcgbhdajaaGreatDoor
open Go.RowKit
set_option linter.unusedVariables false
set_option linter.unusedSimpArgs false

abbrev WAt (w : World) (wb g : Nat) (q : Room) : Prop := Blk w wb 98 #[.int .i64 q.items, .int .i64 q.texts, .pointer (some ⟨g, 0, none⟩)]
structure QOk (q : Room) : Prop where
 i0 : 0 ≤ q.items
 i1 : q.items ≤ 65536
 t0 : 0 ≤ q.texts
 t1 : q.texts ≤ 1048576
set_option maxRecDepth 100000 in
set_option maxHeartbeats 1000000 in
theorem item_do (w : World) (wb g : Nat) (q : Room) (hq : QOk q) (h : WAt w wb g q) (n : Int) (hn : 0 ≤ n) (hn2 : n ≤ 65536) :
  Calls Tryz.prog 91 #[.pointer (some ⟨wb, 0, none⟩), .int .i64 n] w fun e w' =>
   (0 ≤ q.items - n → e = .returned (.tuple #[])) ∧ (¬ 0 ≤ q.items - n → Fails sReply e) ∧ w' = w.setCell ⟨wb, 0, none⟩ (.int .i64 (q.items - n)) := by
 obtain ⟨i0, i1, _, _⟩ := hq
 have c0 := h.cell 0
 have f0 := h.frozen 0
 have l0 := h.lt
 simp only [List.getElem?_toArray, List.getElem?_cons_zero, List.getElem?_cons_succ] at c0
 have hwr : IntKind.i64.wrap (q.items - n) = q.items - n := IntWalk.i64_in _ (by omega)
 clear h
 rcases Decidable.em (0 ≤ q.items - n) with hs | hs
 ·have hd : decide (q.items - n ≥ 0) = true := decide_eq_true hs
  have hd2 : decide (n ≤ q.items) = true := decide_eq_true (by omega)
  go_enter Tryz.func91, Tryz.ntmps91
  go_wp2_with fail
  refine (bmust_yes _ _).mono ?_
  rintro e w1 ⟨rfl, rfl⟩
  go_wp2_with fail
  go_end0
  exact ⟨fun _ => rfl, fun hx => False.elim (by omega), rfl⟩
 ·have hd : decide (q.items - n ≥ 0) = false := decide_eq_false hs
  have hd2 : decide (n ≤ q.items) = false := decide_eq_false (by omega)
  go_enter Tryz.func91, Tryz.ntmps91
  go_wp2_with fail
  refine (bmust_no _ _).mono ?_
  rintro e w1 ⟨he, rfl⟩
  unfold Fails at he
  subst he
  go_wp2_with fail
  exact ⟨rfl, fun hx => False.elim (by omega), by first | exact rfl | exact fun _ => rfl, rfl⟩
set_option maxRecDepth 100000 in
set_option maxHeartbeats 1000000 in
theorem rtext_do (w : World) (wb g : Nat) (q : Room) (hq : QOk q) (h : WAt w wb g q) (s : ByteArray) :
  Calls Tryz.prog 70 #[.pointer (some ⟨wb, 0, none⟩), .string s] w fun e w' =>
   (0 ≤ q.texts - min (s.size : Int) 1048577 → e = .returned (.string s)) ∧ (¬ 0 ≤ q.texts - min (s.size : Int) 1048577 → Fails sReply e) ∧ w' = w.setCell ⟨wb, 1, none⟩ (.int .i64 (q.texts - min (s.size : Int) 1048577)) := by
 obtain ⟨_, _, t0, t1⟩ := hq
 have c0 := h.cell 1
 have f0 := h.frozen 1
 have l0 := h.lt
 simp only [List.getElem?_toArray, List.getElem?_cons_zero, List.getElem?_cons_succ] at c0
 obtain ⟨m, hm⟩ : ∃ m, min (s.size : Int) 1048577 = m := ⟨_, rfl⟩
 have hwr : IntKind.i64.wrap (q.texts - m) = q.texts - m := IntWalk.i64_in _ (by omega)
 rw [hm]
 clear h
 rcases Decidable.em (0 ≤ q.texts - m) with hs | hs
 ·have hd : decide (q.texts - m ≥ 0) = true := decide_eq_true hs
  have hd2 : decide (m ≤ q.texts) = true := decide_eq_true (by omega)
  go_enter Tryz.func70, Tryz.ntmps70
  go_wp2_with fail
  refine (bmust_yes _ _).mono ?_
  rintro e w1 ⟨rfl, rfl⟩
  go_wp2_with fail
  go_ret
  exact ⟨fun _ => rfl, fun hx => False.elim (by omega), rfl⟩
 ·have hd : decide (q.texts - m ≥ 0) = false := decide_eq_false hs
  have hd2 : decide (m ≤ q.texts) = false := decide_eq_false (by omega)
  go_enter Tryz.func70, Tryz.ntmps70
  go_wp2_with fail
  refine (bmust_no _ _).mono ?_
  rintro e w1 ⟨he, rfl⟩
  unfold Fails at he
  subst he
  go_wp2_with fail
  exact ⟨rfl, fun hx => False.elim (by omega), by first | exact rfl | exact fun _ => rfl, rfl⟩
end Go.Proofs.YtlfihdcgbhdajaaGreatDoor
namespace Go.Proofs.YtlfihdcgbhdajaaGreatDoor
open Go.RowKit
set_option linter.unusedVariables false
set_option linter.unusedSimpArgs false

def BepE (w : World) (wb g D : Nat) (r : RepX) (e : Ending) (w' : World) : Prop :=
 Only wb w w' ∧ (match r with
  | .ok (x, q) => ∃ rv, e = .returned rv ∧ RepV (fun b => w.heap.size ≤ b) w' D rv x ∧ WAt w' wb g q
  | .error why => Fails why e)
theorem nilR (ok : Nat → Prop) (w : World) (D : Nat) (k n : Int) (s : ByteArray) : RepV ok w D (.agg #[.int .i64 k, .int .i64 n, .string s, .slice none 0 0]) (.mk k n s []) := ⟨_, rfl, nil_list _ _ _⟩
theorem ext4 {a w : World} {k : Nat} (h : Ext a w) (hk : a.heap.size ≤ k) (u0 u1 u2 u3 : Value) : Ext a ((((w.setCell ⟨k, 0, none⟩ u0).setCell ⟨k, 1, none⟩ u1).setCell ⟨k, 2, none⟩ u2).setCell ⟨k, 3, none⟩ u3) :=
 (((h.setCell (p := ⟨k, 0, none⟩) hk _).setCell (p := ⟨k, 1, none⟩) hk _).setCell (p := ⟨k, 2, none⟩) hk _).setCell (p := ⟨k, 3, none⟩) hk _
theorem only4 {g k : Nat} {a w : World} (h : Only g a w) (hk : a.heap.size ≤ k) (u0 u1 u2 u3 : Value) : Only g a ((((w.setCell ⟨k, 0, none⟩ u0).setCell ⟨k, 1, none⟩ u1).setCell ⟨k, 2, none⟩ u2).setCell ⟨k, 3, none⟩ u3) :=
 (((h.setCell (p := ⟨k, 0, none⟩) (.inr hk) _).setCell (p := ⟨k, 1, none⟩) (.inr hk) _).setCell (p := ⟨k, 2, none⟩) (.inr hk) _).setCell (p := ⟨k, 3, none⟩) (.inr hk) _
theorem far4 {w : World} {k b : Nat} {t : TypeId} {cs : Array Value} (h : Blk w b t cs) (hk : b ≠ k) (u0 u1 u2 u3 : Value) : Blk ((((w.setCell ⟨k, 0, none⟩ u0).setCell ⟨k, 1, none⟩ u1).setCell ⟨k, 2, none⟩ u2).setCell ⟨k, 3, none⟩ u3) b t cs :=
 (((h.far (p := ⟨k, 0, none⟩) hk _).far (p := ⟨k, 1, none⟩) hk _).far (p := ⟨k, 2, none⟩) hk _).far (p := ⟨k, 3, none⟩) hk _
theorem heap4 (w : World) {k b : Nat} (hk : b ≠ k) (u0 u1 u2 u3 : Value) : ((((w.setCell ⟨k, 0, none⟩ u0).setCell ⟨k, 1, none⟩ u1).setCell ⟨k, 2, none⟩ u2).setCell ⟨k, 3, none⟩ u3).heap[b]? = w.heap[b]? :=
 (Below.heap_setCell _ _ _ b hk).trans ((Below.heap_setCell _ _ _ b hk).trans ((Below.heap_setCell _ _ _ b hk).trans (Below.heap_setCell _ _ _ b hk)))
theorem BepE.of_ext {w w' : World} {wb g D : Nat} {q : Room} (h : WAt w wb g q) {k n : Int} {s : ByteArray} {e : Ending} (he : e = .returned (.agg #[.int .i64 k, .int .i64 n, .string s, .slice none 0 0])) (hx : Ext w w') : BepE w wb g D (.ok (.mk k n s [], q)) e w' :=
 ⟨.of_ext hx, _, he, nilR _ _ _ _ _ _, h.ext hx⟩
theorem four {w : World} {b : Nat} {t : TypeId} {x y z u : Value} (h : Blk w b t #[x, y, z, u]) :
  w.cell? ⟨b, 0, none⟩ = some x ∧ w.cell? ⟨b, 1, none⟩ = some y ∧ w.cell? ⟨b, 2, none⟩ = some z ∧ w.cell? ⟨b, 3, none⟩ = some u ∧ w.frozen? ⟨b, 0, none⟩ = false ∧ w.frozen? ⟨b, 1, none⟩ = false ∧ w.frozen? ⟨b, 2, none⟩ = false ∧ w.frozen? ⟨b, 3, none⟩ = false :=
 ⟨h.cell 0, h.cell 1, h.cell 2, h.cell 3, h.frozen 0, h.frozen 1, h.frozen 2, h.frozen 3⟩
set_option maxRecDepth 100000 in
set_option maxHeartbeats 1000000 in
theorem rbool_no (w : World) (b4 : Nat) (v : Vl) (B4 : Blk w b4 34 #[.int .i64 v.k, .int .i64 v.n, .string v.s]) (hz : v.n = 0) :
  Calls Tryz.prog 67 #[.pointer (some ⟨b4, 0, none⟩)] w fun e w' => e = .returned (.agg #[.int .i64 0, .int .i64 0, .string ⟨#[]⟩, .slice none 0 0]) ∧ Ext w w' := by
 have HE := Lib.hid ((Ext.refl w).alloc (.cells #[.int .i64 0, .int .i64 0, .string ⟨#[]⟩, .slice none 0 0] 25))
 have c1 := (B4.ext HE.out).cell 1
 simp only [List.getElem?_toArray, List.getElem?_cons_zero, List.getElem?_cons_succ] at c1
 have hb4 : ¬ b4 = w.heap.size := by have := B4.lt; omega
 have hb4' : ¬ w.heap.size = b4 := by omega
 clear B4
 go_enter Tryz.func67, Tryz.ntmps67
 rw [hz] at c1
 go_wp2_with fail
 exact bodyPost_ret (v := .agg #[.int .i64 0, .int .i64 0, .string ⟨#[]⟩, .slice none 0 0]) (by simp [results, Tryz.results67, go_sem, *]) rfl ⟨rfl, (Ext.refl w).alloc _⟩
set_option maxRecDepth 100000 in
set_option maxHeartbeats 1000000 in
theorem rbool_yes (w : World) (b4 : Nat) (v : Vl) (B4 : Blk w b4 34 #[.int .i64 v.k, .int .i64 v.n, .string v.s]) (hz : ¬ v.n = 0) :
  Calls Tryz.prog 67 #[.pointer (some ⟨b4, 0, none⟩)] w fun e w' => e = .returned (.agg #[.int .i64 3, .int .i64 1, .string ⟨#[]⟩, .slice none 0 0]) ∧ Ext w w' := by
 have HE := Lib.hid ((Ext.refl w).alloc (.cells #[.int .i64 0, .int .i64 0, .string ⟨#[]⟩, .slice none 0 0] 25))
 have c1 := (B4.ext HE.out).cell 1
 simp only [List.getElem?_toArray, List.getElem?_cons_zero, List.getElem?_cons_succ] at c1
 have hb4 : ¬ b4 = w.heap.size := by have := B4.lt; omega
 have hb4' : ¬ w.heap.size = b4 := by omega
 clear B4
 go_enter Tryz.func67, Tryz.ntmps67
 have hz2 : (v.n == 0) = false := by simpa using hz
 go_wp2_with fail
 exact bodyPost_ret (v := .agg #[.int .i64 3, .int .i64 1, .string ⟨#[]⟩, .slice none 0 0]) (by simp [results, Tryz.results67, go_sem, *]) rfl ⟨rfl, (Ext.refl w).alloc _⟩
set_option maxRecDepth 100000 in
set_option maxHeartbeats 1000000 in
theorem rint_do (w : World) (b4 : Nat) (v : Vl) (B4 : Blk w b4 34 #[.int .i64 v.k, .int .i64 v.n, .string v.s]) :
  Calls Tryz.prog 68 #[.pointer (some ⟨b4, 0, none⟩)] w fun e w' => e = .returned (.agg #[.int .i64 3, .int .i64 v.n, .string ⟨#[]⟩, .slice none 0 0]) ∧ Ext w w' := by
 have HE := Lib.hid ((Ext.refl w).alloc (.cells #[.int .i64 0, .int .i64 0, .string ⟨#[]⟩, .slice none 0 0] 25))
 have c1 := (B4.ext HE.out).cell 1
 simp only [List.getElem?_toArray, List.getElem?_cons_zero, List.getElem?_cons_succ] at c1
 have hb4 : ¬ b4 = w.heap.size := by have := B4.lt; omega
 have hb4' : ¬ w.heap.size = b4 := by omega
 clear B4
 go_enter Tryz.func68, Tryz.ntmps68
 go_wp2_with fail
 exact bodyPost_ret (v := .agg #[.int .i64 3, .int .i64 v.n, .string ⟨#[]⟩, .slice none 0 0]) (by simp [results, Tryz.results68, go_sem, *]) rfl ⟨rfl, (Ext.refl w).alloc _⟩
set_option maxRecDepth 100000 in
set_option maxHeartbeats 1000000 in
theorem rtext_close (w : World) (wb g b3 b4 D : Nat) (q : Room) (hq : QOk q) (v : Vl) (WA : WAt w wb g q) (B3 : Blk w b3 94 #[.pointer (some ⟨wb, 0, none⟩)]) (B4 : Blk w b4 34 #[.int .i64 v.k, .int .i64 v.n, .string v.s]) (n3 : b3 ≠ wb) (n4 : b4 ≠ wb) :
  Calls Tryz.prog 69 #[.pointer (some ⟨b3, 0, none⟩), .pointer (some ⟨b4, 0, none⟩)] w (BepE w wb g D (textP q 4 v.s)) := by
 have e1 := (Ext.refl w).alloc (.cells #[.int .i64 0, .int .i64 0, .string ⟨#[]⟩, .slice none 0 0] 25)
 have R := Blk.new w 25 #[.int .i64 0, .int .i64 0, .string ⟨#[]⟩, .slice none 0 0]
 have C3 := Lib.hid (B3.ext e1)
 have C4 := Lib.hid (B4.ext e1)
 have hwl := WA.lt
 have l3 := B3.lt
 have l4 := B4.lt
 have HT := Lib.hid (fun (W : World) (hW : WAt W wb g q) => rtext_do W wb g q hq hW v.s)
 have HW : Hid (WAt (w.alloc (.cells #[.int .i64 0, .int .i64 0, .string ⟨#[]⟩, .slice none 0 0] 25)).drew wb g q) := Lib.hid ((WA.ext e1).drew)
 have XF : Hid (∀ w3, w3 = (w.alloc (.cells #[.int .i64 0, .int .i64 0, .string ⟨#[]⟩, .slice none 0 0] 25)).drew.setCell ⟨wb, 1, none⟩ (.int .i64 (q.texts - min (v.s.size : Int) 1048577)) → (fun w' => w'.cell? ⟨b3, 0, none⟩ = some (.pointer (some ⟨wb, 0, none⟩)) ∧ w'.cell? ⟨b4, 2, none⟩ = some (.string v.s)) w3 ∧ Blk w3 w.heap.size 25 #[.int .i64 0, .int .i64 0, .string ⟨#[]⟩, .slice none 0 0] ∧ WAt w3 wb g ⟨q.items, q.texts - min (v.s.size : Int) 1048577⟩ ∧ Only wb w w3 ∧ Blk w3 b3 94 #[.pointer (some ⟨wb, 0, none⟩)] ∧ Blk w3 b4 34 #[.int .i64 v.k, .int .i64 v.n, .string v.s]) := Lib.hid (by
  rintro w3 rfl
  have A3 := (B3.ext e1).drew.far (p := ⟨wb, 1, none⟩) n3 (.int .i64 (q.texts - min (v.s.size : Int) 1048577))
  have A4 := (B4.ext e1).drew.far (p := ⟨wb, 1, none⟩) n4 (.int .i64 (q.texts - min (v.s.size : Int) 1048577))
  refine ⟨⟨A3.cell 0, A4.cell 2⟩, R.drew.far (by show ¬ w.heap.size = wb; omega) _, ?_, (Only.of_ext e1).drew.setCell (.inl rfl) _, A3, A4⟩
  have := ((WA.ext e1).drew).set_ 1 (.int .i64 (q.texts - min (v.s.size : Int) 1048577))
  simpa using this)
 have YF : Hid (∀ w3 x0 x1 x2 x3, Blk w3 w.heap.size 25 #[.int .i64 0, .int .i64 0, .string ⟨#[]⟩, .slice none 0 0] ∧ WAt w3 wb g ⟨q.items, q.texts - min (v.s.size : Int) 1048577⟩ ∧ Only wb w w3 ∧ Blk w3 b3 94 #[.pointer (some ⟨wb, 0, none⟩)] ∧ Blk w3 b4 34 #[.int .i64 v.k, .int .i64 v.n, .string v.s] →
   (fun w' => w'.cell? ⟨b3, 0, none⟩ = some (.pointer (some ⟨wb, 0, none⟩)) ∧ w'.cell? ⟨b4, 2, none⟩ = some (.string v.s)) ((((w3.setCell ⟨w.heap.size, 0, none⟩ x0).setCell ⟨w.heap.size, 1, none⟩ x1).setCell ⟨w.heap.size, 2, none⟩ x2).setCell ⟨w.heap.size, 3, none⟩ x3) ∧ Blk ((((w3.setCell ⟨w.heap.size, 0, none⟩ x0).setCell ⟨w.heap.size, 1, none⟩ x1).setCell ⟨w.heap.size, 2, none⟩ x2).setCell ⟨w.heap.size, 3, none⟩ x3) w.heap.size 25 #[x0, x1, x2, x3] ∧
   (WAt ((((w3.setCell ⟨w.heap.size, 0, none⟩ x0).setCell ⟨w.heap.size, 1, none⟩ x1).setCell ⟨w.heap.size, 2, none⟩ x2).setCell ⟨w.heap.size, 3, none⟩ x3) wb g ⟨q.items, q.texts - min (v.s.size : Int) 1048577⟩ ∧ Only wb w ((((w3.setCell ⟨w.heap.size, 0, none⟩ x0).setCell ⟨w.heap.size, 1, none⟩ x1).setCell ⟨w.heap.size, 2, none⟩ x2).setCell ⟨w.heap.size, 3, none⟩ x3))) := Lib.hid (by
  rintro w3 x0 x1 x2 x3 ⟨h1, h2, h3, h4, h5⟩
  exact ⟨⟨(far4 h4 (by omega) _ _ _ _).cell 0, (far4 h5 (by omega) _ _ _ _).cell 2⟩, put4 h1 _ _ _ _, far4 h2 (by omega) _ _ _ _, only4 h3 (Nat.le_refl _) _ _ _ _⟩)
 obtain ⟨r, hr⟩ : ∃ r, textP q 4 v.s = r := ⟨_, rfl⟩
 rw [hr]
 have YES : Hid (0 ≤ q.texts - min (v.s.size : Int) 1048577 → ∀ W, WAt W wb g ⟨q.items, q.texts - min (v.s.size : Int) 1048577⟩ ∧ Only wb w W → BepE w wb g D r (.returned (.agg #[.int .i64 4, .int .i64 0, .string v.s, .slice none 0 0])) W) := Lib.hid (fun hs W hW => by
  rw [← hr]
  unfold textP
  rw [if_pos hs]
  exact ⟨hW.2, _, rfl, nilR _ _ _ _ _ _, hW.1⟩)
 have NO : Hid (¬ 0 ≤ q.texts - min (v.s.size : Int) 1048577 → BepE w wb g D r (.panicked [{ v := bfailV sReply, recovered := false }]) ((w.alloc (.cells #[.int .i64 0, .int .i64 0, .string ⟨#[]⟩, .slice none 0 0] 25)).drew.setCell ⟨wb, 1, none⟩ (.int .i64 (q.texts - min (v.s.size : Int) 1048577)))) := Lib.hid (fun hs => by
  rw [← hr]
  unfold textP
  rw [if_neg hs]
  exact ⟨(XF.out _ rfl).2.2.2.1, rfl⟩)
 have d0 := Lib.hid (show (fun w' => w'.cell? ⟨b3, 0, none⟩ = some (.pointer (some ⟨wb, 0, none⟩)) ∧ w'.cell? ⟨b4, 2, none⟩ = some (.string v.s)) (w.alloc (.cells #[.int .i64 0, .int .i64 0, .string ⟨#[]⟩, .slice none 0 0] 25)).drew from ⟨(B3.ext e1).drew.cell 0, (B4.ext e1).drew.cell 2⟩)
 clear hr e1 R WA B3 B4 hwl l3 l4
 go_enter Tryz.func69, Tryz.ntmps69
 go_wp2_with fail
 refine wp_region_held_drew (S := fun w' => w'.cell? ⟨b3, 0, none⟩ = some (.pointer (some ⟨wb, 0, none⟩)) ∧ w'.cell? ⟨b4, 2, none⟩ = some (.string v.s)) (by kernel_rfl) d0.out (fun hHeld => ?_)
 refine wpAnyH_take (i := 0) (v := ?_) rfl (by kernel_rfl) (by kernel_rfl) (by kernel_rfl) (fun _ _ _ h => h) (Or.inl ⟨by rfl, (by intro w hSw; (try dsimp only at hSw); go_simp; first | done | with_reducible rfl)⟩) (by assumption) ?_
 (try simp only [Act.put, List.setIfInBounds_toArray, List.set_cons_zero, List.set_cons_succ])
 refine wpAnyH_take (i := 1) (v := ?_) rfl (by kernel_rfl) (by kernel_rfl) (by kernel_rfl) (fun _ _ _ h => h) (Or.inl ⟨by rfl, (by intro w hSw; (try dsimp only at hSw); go_simp; first | done | with_reducible rfl)⟩) (by assumption) ?_
 (try simp only [Act.put, List.setIfInBounds_toArray, List.set_cons_zero, List.set_cons_succ])
 refine wpAnyH_take (i := 2) (v := ?_) rfl (by kernel_rfl) (by kernel_rfl) (by kernel_rfl) (fun _ _ _ h => h) (Or.inl ⟨by rfl, (by intro w hSw; (try dsimp only at hSw); go_simp; first | done | with_reducible rfl)⟩) (by assumption) ?_
 (try simp only [Act.put, List.setIfInBounds_toArray, List.set_cons_zero, List.set_cons_succ])
 refine wpAnyH_take (i := 3) (v := ?_) rfl (by kernel_rfl) (by kernel_rfl) (by kernel_rfl) (fun _ _ _ h => h) (Or.inl ⟨by rfl, (by intro w hSw; (try dsimp only at hSw); go_simp; first | done | with_reducible rfl)⟩) (by assumption) ?_
 (try simp only [Act.put, List.setIfInBounds_toArray, List.set_cons_zero, List.set_cons_succ])
 refine wpAnyH_take (i := 4) (v := ?_) rfl (by kernel_rfl) (by kernel_rfl) (by kernel_rfl) (fun _ _ _ h => h) (Or.inl ⟨by rfl, (by intro w hSw; (try dsimp only at hSw); go_simp; first | done | with_reducible rfl)⟩) (by assumption) ?_
 (try simp only [Act.put, List.setIfInBounds_toArray, List.set_cons_zero, List.set_cons_succ])
 refine wpAnyH_ready (rs := [5]) (by kernel_rfl) (by simp) ?_
 refine AllReadyH.cons rfl (fun K hK => ?_) ?_
 ·skip
  go_simp
  rcases Decidable.em (0 ≤ q.texts - min (v.s.size : Int) 1048577) with hs | hs
  rotate_left
  ·refine (HT.out _ HW.out).mono ?_
   rintro e w3 ⟨-, he, rfl⟩
   have he := he (by omega)
   unfold Fails at he
   subst he
   exact ⟨rfl, NO.out (by omega)⟩
  refine (HT.out _ HW.out).mono ?_
  rintro e w3 ⟨he, -, hw3⟩
  obtain rfl := he (by omega)
  have X3 := Lib.hid (XF.out _ hw3)
  clear he hw3
  clear hHeld
  refine hK.out _ _ (X3.out.1) (fun hHeld => ?_)
  clear hK K
  (try simp only [Act.put, List.setIfInBounds_toArray, List.set_cons_zero, List.set_cons_succ])
  refine wpAnyH_take (i := 6) (v := ?_) rfl (by kernel_rfl) (by kernel_rfl) (by kernel_rfl) (fun _ _ _ h => h) (Or.inl ⟨by rfl, (by intro w hSw; (try dsimp only at hSw); go_simp; first | done | with_reducible rfl)⟩) (by assumption) ?_
  (try simp only [Act.put, List.setIfInBounds_toArray, List.set_cons_zero, List.set_cons_succ])
  refine wpAnyH_ready (rs := [7]) (by kernel_rfl) (by simp) ?_
  refine AllReadyH.cons rfl (fun K hK => ?_) ?_
  ·skip
   obtain ⟨z0, z1, z2, z3, y0, y1, y2, y3⟩ := four X3.out.2.1
   have hl3 := X3.out.2.1.lt
   go_simp
   have Y3 := Lib.hid (YF.out w3 (.int .i64 4) (.int .i64 0) (.string v.s) (.slice none 0 0) X3.out.2)
   clear hHeld
   refine hK.out _ _ (Y3.out.1) (fun hHeld => ?_)
   clear hK K
   (try simp only [Act.put, List.setIfInBounds_toArray, List.set_cons_zero, List.set_cons_succ])
   refine wpAnyH_done (by kernel_rfl) ?_ _
   go_wp2_with fail
   obtain ⟨z0, z1, z2, z3, _⟩ := four Y3.out.2.1
   exact bodyPost_ret (v := .agg #[.int .i64 4, .int .i64 0, .string v.s, .slice none 0 0]) (by simp [results, Tryz.results69, go_sem, *]) rfl (YES.out (by omega) _ Y3.out.2.2)
  ·skip
   exact AllReadyH.nil
 ·skip
  exact AllReadyH.nil
end Go.Proofs.YtlfihdcgbhdajaaGreatDoor
