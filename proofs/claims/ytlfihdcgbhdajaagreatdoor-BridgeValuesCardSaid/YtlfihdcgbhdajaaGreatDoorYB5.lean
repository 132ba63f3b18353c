/- The bridge's small functions: must, got, set; how a heap is behind a step. Value's variables as they lie; its closure set. The small kinds: none, a number, a text. What is deferred: caught tells what is given up with; behind a refusal nothing is told. -/
import Derived.Test.YtlfihdcgbhdajaaGreatDoorYB3
import Derived.Test.YtlfihdcgbhdajaaGreatDoorYB4
import Derived.Recover
import Derived.Defers
import Derived.Deep.RegionHeld3
import Derived.Test.YtlfihdcgbhdajaaGreatDoorYA3
namespace Go.Proofs.YtlfihdcgbhdajaaGreatDoor
open Go.RowKit
set_option linter.unusedVariables false
set_option linter.unusedSimpArgs false

def bfailV (why : ByteArray) : Value := .iface 107 (.agg #[.string why])
def Fails (why : ByteArray) (e : Ending) : Prop := e = .panicked [{ v := bfailV why, recovered := false }]
structure HS (w : World) (g : Nat) (tv : Value) (rs : List (Nat × Nat)) (w' : World) (tv' : Value) (rs' : List (Nat × Nat)) (H' : Hp) : Prop where
 heap : HeapIn w' g tv' rs' H'
 touch : Touch (Foot g tv rs) w w'
 foot : ∀ x, Foot g tv' rs' x → Foot g tv rs x ∨ w.heap.size ≤ x
def HStep (w : World) (g : Nat) (tv : Value) (rs : List (Nat × Nat)) (w' : World) (H' : Hp) : Prop := ∃ tv' rs', HS w g tv rs w' tv' rs' H'
section
variable {w w1 w2 : World} {g : Nat} {tv tv1 tv2 : Value} {rs rs1 rs2 : List (Nat × Nat)} {H H1 H2 : Hp}
theorem HS.refl (h : HeapIn w g tv rs H) : HS w g tv rs w tv rs H := ⟨h, .refl _ _, fun _ hx => .inl hx⟩
theorem HS.of_ext (h : HeapIn w g tv rs H) (he : Ext w w1) : HS w g tv rs w1 tv rs H := ⟨h.ext he, .of_ext he, fun _ hx => .inl hx⟩
theorem HS.of_touch (h : HeapIn w1 g tv rs H1) (ht : Touch (Foot g tv rs) w w1) : HS w g tv rs w1 tv rs H1 := ⟨h, ht, fun _ hx => .inl hx⟩
theorem HS.trans (a : HS w g tv rs w1 tv1 rs1 H1) (b : HS w1 g tv1 rs1 w2 tv2 rs2 H2) : HS w g tv rs w2 tv2 rs2 H2 :=
 ⟨b.heap, a.touch.transn b.touch a.foot, fun x hx => by
  rcases b.foot x hx with h | h
  ·exact a.foot x h
  ·exact .inr (Nat.le_trans a.touch.size h)⟩
theorem HS.ext (a : HS w g tv rs w1 tv1 rs1 H1) (he : Ext w1 w2) : HS w g tv rs w2 tv1 rs1 H1 := ⟨a.heap.ext he, a.touch.ext he, a.foot⟩
theorem HS.pre (he : Ext w w1) (a : HS w1 g tv rs w2 tv2 rs2 H2) : HS w g tv rs w2 tv2 rs2 H2 :=
 ⟨a.heap, Touch.pre he a.touch, fun x hx => (a.foot x hx).imp id (fun h => Nat.le_trans he.size h)⟩
theorem HS.step (a : HS w g tv rs w1 tv1 rs1 H1) : HStep w g tv rs w1 H1 := ⟨_, _, a⟩
end
theorem make_step (g : Nat) (tv : Value) (rs : List (Nat × Nat)) (H : Hp) (s : ByteArray) (w : World) (h : HeapIn w g tv rs H) (hz : s.size ≤ 9223372036854775807) :
  Calls Tryz.prog 31 #[.pointer (some ⟨g, 0, none⟩), .string s] w fun e w' => e = .returned (.tuple #[(mkV H.cells H.spent s).v, .string (mkW H.cells H.spent s)]) ∧ HS w g tv rs w' tv rs (mkH H s) :=
 (make_any g tv H.cells H.spent s w h.head h.ok.low h.ok.le h.ok.most hz).mono fun e w' ⟨he, ho, hb⟩ =>
  ⟨he, ⟨h.only ho _ _ hb (mkC_le h.ok.le h.ok.low).1 (mkC_le h.ok.le h.ok.low).2 h.ok.most, .only ho (.inl rfl), fun _ hx => .inl hx⟩⟩
theorem bmust_yes (why : ByteArray) (w : World) : Calls Tryz.prog 27 #[.bool true, .string why] w fun e w' => e = .returned (.tuple #[]) ∧ w = w' := by
 go_enter Tryz.func27, Tryz.ntmps27
 go_wp2
 go_end0
 exact ⟨rfl, rfl⟩
theorem bmust_no (why : ByteArray) (w : World) : Calls Tryz.prog 27 #[.bool false, .string why] w fun e w' => Fails why e ∧ w = w' := by
 go_enter Tryz.func27, Tryz.ntmps27
 go_wp2
 exact ⟨rfl, rfl, rfl⟩
theorem ne_list {s : ByteArray} (h : ¬ s = sNone) : ¬ s.toList = [] := fun e => h (toList_nil e)
set_option maxRecDepth 100000 in
theorem got_yes (v : Vl) (w : World) : Calls Tryz.prog 30 #[v.v, .string sNone] w fun e w' => e = .returned v.v ∧ Ext w w' := by
 have hq : sNone.toList = [] := sNone_list
 go_enter Tryz.func30, Tryz.ntmps30
 go_wp2_with fail
 refine (bmust_yes _ _).mono ?_
 rintro e w1 ⟨rfl, rfl⟩
 go_wp2_with fail
 exact bodyPost_ret (v := v.v) (by simp [results, Tryz.results30, go_sem]) rfl ⟨rfl, by repeat (first | exact Ext.refl _ | refine Ext.setCell ?_ (by simp) _ | refine Ext.alloc ?_ _)⟩
set_option maxRecDepth 100000 in
theorem got_no (v : Vl) (why : ByteArray) (h : ¬ why = sNone) (w : World) : Calls Tryz.prog 30 #[v.v, .string why] w fun e w' => Fails why e ∧ Ext w w' := by
 have hq : ¬ why.toList = [] := ne_list h
 have hq2 : why.toList.isEmpty = false := by cases hw : why.toList with | nil => exact absurd hw hq | cons _ _ => rfl
 go_enter Tryz.func30, Tryz.ntmps30
 go_wp2_with fail
 refine (bmust_no _ _).mono ?_
 rintro e w1 ⟨rfl, rfl⟩
 go_wp2_with fail
 exact ⟨rfl, rfl, by repeat (first | exact Ext.refl _ | refine Ext.setCell ?_ (by simp) _ | refine Ext.alloc ?_ _)⟩
theorem table_step (g : Nat) (tv : Value) (rs : List (Nat × Nat)) (H : Hp) (w : World) (h : HeapIn w g tv rs H) (hn : H.tabs.length ≤ 1000000000000) :
  Calls Tryz.prog 19 #[.pointer (some ⟨g, 0, none⟩)] w fun e w' => e = .returned (.tuple #[(tabV H).v, .string (tabW H)]) ∧ ∃ tv' rs', HS w g tv rs w' tv' rs' (tabH H) := by
 by_cases hm : 1 ≤ H.cells - H.spent
 ·refine (table_yes g tv rs H w h hm hn).mono ?_
  rintro e w' ⟨rfl, tv', rs', h1, h2, h3⟩
  unfold tabV tabW tabH
  rw [if_pos hm, if_pos hm, if_pos hm]
  exact ⟨rfl, tv', rs', h1, h2, h3⟩
 ·refine (table_no g tv rs H w h hm).mono ?_
  rintro e w' ⟨rfl, h1, h2⟩
  unfold tabV tabW tabH
  rw [if_neg hm, if_neg hm, if_neg hm]
  exact ⟨rfl, tv, rs, .of_touch h1 h2⟩
section
variable {w w1 w' : World} {g k : Nat} {tv tv' : Value} {rs rs' : List (Nat × Nat)} {H' : Hp}
theorem Blk.step {t : TypeId} {cs : Array Value} (h : Blk w k t cs) (hs : HS w g tv rs w' tv' rs' H') (hn : ¬ Foot g tv rs k) : Blk w' k t cs := (hs.touch.block k h.lt hn).trans h
theorem HS.notin (hs : HS w g tv rs w' tv' rs' H') (hk : k < w.heap.size) (hn : ¬ Foot g tv rs k) : ¬ Foot g tv' rs' k := fun hx => by
 rcases hs.foot k hx with h | h
 ·exact hn h
 ·omega
theorem HS.setCell (a : HS w g tv rs w' tv' rs' H') {p : Addr} (hp : w.heap.size ≤ p.block) (hn : ¬ Foot g tv' rs' p.block) (u : Value) : HS w g tv rs (w'.setCell p u) tv' rs' H' :=
  ⟨a.heap.of_heap fun k hk => Below.heap_setCell w' p u k (by rintro rfl; exact hn hk),
   ⟨a.touch.os, a.touch.tape, a.touch.output, by simpa [World.setCell] using a.touch.size, fun k hk h => (Below.heap_setCell w' p u k (by omega)).trans (a.touch.block k hk h)⟩, a.foot⟩
theorem HS.set3 (a : HS w g tv rs w' tv' rs' H') (hp : w.heap.size ≤ k) (hn : ¬ Foot g tv' rs' k) (u0 u1 u2 : Value) : HS w g tv rs (((w'.setCell ⟨k, 0, none⟩ u0).setCell ⟨k, 1, none⟩ u1).setCell ⟨k, 2, none⟩ u2) tv' rs' H' :=
 ((a.setCell (p := ⟨k, 0, none⟩) hp hn u0).setCell (p := ⟨k, 1, none⟩) hp hn u1).setCell (p := ⟨k, 2, none⟩) hp hn u2
end
theorem three {w : World} {b : Nat} {t : TypeId} {x y z : Value} (h : Blk w b t #[x, y, z]) :
  w.cell? ⟨b, 0, none⟩ = some x ∧ w.cell? ⟨b, 1, none⟩ = some y ∧ w.cell? ⟨b, 2, none⟩ = some z ∧ w.frozen? ⟨b, 0, none⟩ = false ∧ w.frozen? ⟨b, 1, none⟩ = false ∧ w.frozen? ⟨b, 2, none⟩ = false :=
 ⟨h.cell 0, h.cell 1, h.cell 2, h.frozen 0, h.frozen 1, h.frozen 2⟩
theorem put3 {w : World} {b : Nat} {t : TypeId} {a0 a1 a2 : Value} (h : Blk w b t #[a0, a1, a2]) (u0 u1 u2 : Value) : Blk (((w.setCell ⟨b, 0, none⟩ u0).setCell ⟨b, 1, none⟩ u1).setCell ⟨b, 2, none⟩ u2) b t #[u0, u1, u2] := by
 simpa using ((h.set_ 0 u0).set_ 1 u1).set_ 2 u2
end Go.Proofs.YtlfihdcgbhdajaaGreatDoor
namespace Go.Proofs.YtlfihdcgbhdajaaGreatDoor
open Go.RowKit
set_option linter.unusedVariables false
set_option linter.unusedSimpArgs false

def kindsV (hb sb lb o1 o2 : Nat) : List (Value × Value) :=
  [(.int .i64 0, .func (.func 32) #[] #[]), (.int .i64 3, .func (.func 33) #[] #[]), (.int .i64 4, .func (.func 34) #[] #[.pointer (some ⟨hb, 0, none⟩)]),
   (.int .i64 1, .func (.func 29) #[] #[.pointer (some ⟨hb, 0, none⟩), .pointer (some ⟨sb, 0, none⟩), .pointer (some ⟨o1, 0, none⟩)]),
   (.int .i64 2, .func (.func 29) #[] #[.pointer (some ⟨hb, 0, none⟩), .pointer (some ⟨sb, 0, none⟩), .pointer (some ⟨o2, 0, none⟩)]),
   (.int .i64 5, .func (.func 35) #[] #[.pointer (some ⟨hb, 0, none⟩), .pointer (some ⟨sb, 0, none⟩), .pointer (some ⟨lb, 0, none⟩)])]
structure Bed (w : World) (g : Nat) (tv : Value) (rs : List (Nat × Nat)) (hb sb lb kb M o1 o2 : Nat) : Prop where
 h : Blk w hb 28 #[.pointer (some ⟨g, 0, none⟩)]
 s : Blk w sb 65 #[.func (.func 26) #[] #[.pointer (some ⟨hb, 0, none⟩)]]
 l : Blk w lb 66 #[.func (.func 36) #[] #[.pointer (some ⟨kb, 0, none⟩)]]
 k : Blk w kb 70 #[.map (some M)]
 m : w.heap[M]? = some (.map (ents (kindsV hb sb lb o1 o2) 0).toArray 6)
 a : Blk w o1 9 #[.string sOk]
 b : Blk w o2 9 #[.string sErr]
 off : ∀ x ∈ [hb, sb, lb, kb, M, o1, o2], ¬ Foot g tv rs x
section
variable {w w' : World} {g : Nat} {tv tv' : Value} {rs rs' : List (Nat × Nat)} {hb sb lb kb M o1 o2 : Nat} {H' : Hp}
theorem Bed.ltM (h : Bed w g tv rs hb sb lb kb M o1 o2) : M < w.heap.size := (Array.getElem?_eq_some_iff.1 h.m).1
theorem Bed.lt (h : Bed w g tv rs hb sb lb kb M o1 o2) : ∀ x ∈ [hb, sb, lb, kb, M, o1, o2], x < w.heap.size := by
 intro x hx
 simp only [List.mem_cons, List.not_mem_nil, or_false] at hx
 rcases hx with rfl | rfl | rfl | rfl | rfl | rfl | rfl
 ·exact h.h.lt
 ·exact h.s.lt
 ·exact h.l.lt
 ·exact h.k.lt
 ·exact h.ltM
 ·exact h.a.lt
 ·exact h.b.lt
theorem Bed.step (h : Bed w g tv rs hb sb lb kb M o1 o2) (hs : HS w g tv rs w' tv' rs' H') : Bed w' g tv' rs' hb sb lb kb M o1 o2 :=
  ⟨h.h.step hs (h.off _ (by simp)), h.s.step hs (h.off _ (by simp)), h.l.step hs (h.off _ (by simp)), h.k.step hs (h.off _ (by simp)), (hs.touch.block M h.ltM (h.off _ (by simp))).trans h.m,
   h.a.step hs (h.off _ (by simp)), h.b.step hs (h.off _ (by simp)), fun x hx => hs.notin (h.lt x hx) (h.off x hx)⟩
theorem Bed.ext (h : Bed w g tv rs hb sb lb kb M o1 o2) (he : Ext w w') : Bed w' g tv rs hb sb lb kb M o1 o2 :=
 ⟨h.h.ext he, h.s.ext he, h.l.ext he, h.k.ext he, (he.block M h.ltM).trans h.m, h.a.ext he, h.b.ext he, h.off⟩
end
structure SetE (w : World) (g : Nat) (tv : Value) (rs : List (Nat × Nat)) (H : Hp) (t k v : Vl) (e : Ending) (w' : World) : Prop where
 yes : setW H t k v = sNone → e = .returned (.tuple #[])
 no : ¬ setW H t k v = sNone → Fails (setW H t k v) e
 step : HS w g tv rs w' tv rs (setH H t k v)
set_option maxRecDepth 100000 in
set_option maxHeartbeats 1000000 in
theorem set_do (g : Nat) (tv : Value) (rs : List (Nat × Nat)) (H : Hp) (t k v : Vl) (w : World) (h : HeapIn w g tv rs H) (hlen : H.tabs.length ≤ 9223372036854775807) (hk : in64 k.n) (hv : in64 v.n) (hb : Nat) (HB : Blk w hb 28 #[.pointer (some ⟨g, 0, none⟩)]) (hn : ¬ Foot g tv rs hb) :
  Calls Tryz.prog 26 #[t.v, k.v, v.v, .pointer (some ⟨hb, 0, none⟩)] w (SetE w g tv rs H t k v) := by
 have HE := Lib.hid ((((Ext.refl w).alloc (.cells #[.int .i64 t.k, .int .i64 t.n, .string t.s] 34)).alloc (.cells #[.int .i64 k.k, .int .i64 k.n, .string k.s] 34)).alloc (.cells #[.int .i64 v.k, .int .i64 v.n, .string v.s] 34))
 have hc := fun (W : World) (hW : HeapIn W g tv rs H) => set_any g tv rs H t k v W hW hlen hk hv
 obtain ⟨so, hso⟩ : ∃ so, so = setW H t k v := ⟨_, rfl⟩
 rw [← hso] at hc
 have HC := Lib.hid hc
 have HI := Lib.hid (h.ext HE.out)
 have c0 := (HB.ext HE.out).cell 0
 simp only [List.getElem?_toArray, List.getElem?_cons_zero, List.getElem?_cons_succ] at c0
 have b0 := Lib.hid (Blk.new w 34 #[.int .i64 t.k, .int .i64 t.n, .string t.s])
 have fin : ∀ (e : Ending) (W1 W2 : World), Ext w W1 → HeapIn W2 g tv rs (setH H t k v) → Touch (Foot g tv rs) W1 W2 → (so = sNone → e = .returned (.tuple #[])) → (¬ so = sNone → Fails so e) → SetE w g tv rs H t k v e W2 :=
  fun e W1 W2 h1 h2 h3 h4 h5 => by rw [hso] at h4 h5; exact ⟨h4, h5, HS.of_touch h2 (.pre h1 h3)⟩
 have FIN := Lib.hid fin
 clear h hlen hc hk hv hso fin HB b0
 go_enter Tryz.func26, Tryz.ntmps26
 go_wp2_with fail
 refine (HC.out _ HI.out).mono ?_
 rintro e w4 ⟨rfl, h4, t4⟩
 have H4 := Lib.hid h4
 have T4 := Lib.hid t4
 clear h4 t4
 rcases Decidable.em (so = sNone) with hs | hs
 ·have hq : so.toList = [] := by rw [hs]; exact sNone_list
  have HS := Lib.hid hs
  clear hs
  go_wp2_with fail
  refine (bmust_yes _ _).mono ?_
  rintro e w5 ⟨rfl, rfl⟩
  go_wp2_with fail
  go_end0
  exact FIN.out _ _ _ HE.out H4.out T4.out (fun _ => rfl) (fun h => absurd HS.out h)
 ·have hq : ¬ so.toList = [] := ne_list hs
  have hq2 : so.toList.isEmpty = false := by cases hw : so.toList with | nil => exact absurd hw hq | cons _ _ => rfl
  have HS := Lib.hid hs
  clear hs
  go_wp2_with fail
  refine (bmust_no _ _).mono ?_
  rintro e w5 ⟨rfl, rfl⟩
  go_wp2_with fail
  exact ⟨rfl, FIN.out _ _ _ HE.out H4.out T4.out (fun h => absurd h HS.out) (fun _ => rfl)⟩
end Go.Proofs.YtlfihdcgbhdajaaGreatDoor
namespace Go.Proofs.YtlfihdcgbhdajaaGreatDoor
open Go.RowKit
set_option linter.unusedVariables false
set_option linter.unusedSimpArgs false

structure VayE (w : World) (g : Nat) (tv : Value) (rs : List (Nat × Nat)) (r : Br3) (e : Ending) (w' : World) : Prop where
 yes : r.1 = sNone → e = .returned r.2.1.v
 no : ¬ r.1 = sNone → Fails r.1 e
 step : HStep w g tv rs w' r.2.2
theorem VayE.mk1 {w w' : World} {g : Nat} {tv tv' : Value} {rs rs' : List (Nat × Nat)} {r : Br3} {e : Ending} (h : r.1 = sNone) (he : e = .returned r.2.1.v) (hs : HS w g tv rs w' tv' rs' r.2.2) : VayE w g tv rs r e w' := ⟨fun _ => he, fun hn => absurd h hn, hs.step⟩
theorem VayE.mk0 {w w' : World} {g : Nat} {tv tv' : Value} {rs rs' : List (Nat × Nat)} {r : Br3} {e : Ending} (h : ¬ r.1 = sNone) (he : Fails r.1 e) (hs : HS w g tv rs w' tv' rs' r.2.2) : VayE w g tv rs r e w' := ⟨fun hn => absurd hn h, fun _ => he, hs.step⟩
theorem mkV_yes {c sp : Int} {s : ByteArray} (h : mkW c sp s = sNone) : mkV c sp s = tK s := by
 unfold mkW at h
 unfold mkV
 split at h
 ·exact absurd h sNone_ne.2.2.1
 ·rename_i h1
  rw [if_neg h1]
  split at h
  ·rename_i h2; rw [if_pos h2]; rfl
  ·exact absurd h sNone_ne.2.2.2
set_option maxRecDepth 100000 in
theorem none_do (w : World) (k n : Int) (s : ByteArray) (q : Option Addr) (m c : Nat) :
  Calls Tryz.prog 32 #[.agg #[.int .i64 k, .int .i64 n, .string s, .slice q m c]] w fun e w' => e = .returned (bV false).v ∧ Ext w w' := by
 have HE := Lib.hid (((Ext.refl w).alloc (.cells #[.int .i64 k, .int .i64 n, .string s, .slice q m c] 25)).alloc (.cells #[.int .i64 0, .int .i64 0, .string ⟨#[]⟩] 34))
 have HB : Hid (Blk ((w.alloc (.cells #[.int .i64 k, .int .i64 n, .string s, .slice q m c] 25)).alloc (.cells #[.int .i64 0, .int .i64 0, .string ⟨#[]⟩] 34)) (w.heap.size + 1) 34 #[.int .i64 0, .int .i64 0, .string ⟨#[]⟩]) := Lib.hid (by
  have := Blk.new (w.alloc (.cells #[.int .i64 k, .int .i64 n, .string s, .slice q m c] 25)) 34 #[.int .i64 0, .int .i64 0, .string ⟨#[]⟩]
  rwa [size_alloc] at this)
 go_enter Tryz.func32, Tryz.ntmps32
 go_wp2_with fail
 refine (bool_any false _).mono ?_
 rintro e w1 ⟨rfl, e1⟩
 obtain ⟨z0, z1, z2, y0, y1, y2⟩ := three (HB.out.ext e1)
 have hlt := (HB.out.ext e1).lt
 have E1 := Lib.hid (HE.out.trans e1)
 clear e1
 go_wp2_with fail
 exact bodyPost_ret (v := (bV false).v) (by simp [results, Tryz.results32, go_sem, bV, b2i, sNone, *]) rfl ⟨rfl, (((E1.out).setCell (by simp) _).setCell (by simp) _).setCell (by simp) _⟩
set_option maxRecDepth 100000 in
theorem num_do (w : World) (k n : Int) (s : ByteArray) (q : Option Addr) (m c : Nat) :
  Calls Tryz.prog 33 #[.agg #[.int .i64 k, .int .i64 n, .string s, .slice q m c]] w fun e w' => e = .returned (iK n).v ∧ Ext w w' := by
 have HE := Lib.hid (((Ext.refl w).alloc (.cells #[.int .i64 k, .int .i64 n, .string s, .slice q m c] 25)).alloc (.cells #[.int .i64 0, .int .i64 0, .string ⟨#[]⟩] 34))
 have HB : Hid (Blk ((w.alloc (.cells #[.int .i64 k, .int .i64 n, .string s, .slice q m c] 25)).alloc (.cells #[.int .i64 0, .int .i64 0, .string ⟨#[]⟩] 34)) (w.heap.size + 1) 34 #[.int .i64 0, .int .i64 0, .string ⟨#[]⟩]) := Lib.hid (by
  have := Blk.new (w.alloc (.cells #[.int .i64 k, .int .i64 n, .string s, .slice q m c] 25)) 34 #[.int .i64 0, .int .i64 0, .string ⟨#[]⟩]
  rwa [size_alloc] at this)
 go_enter Tryz.func33, Tryz.ntmps33
 go_wp2_with fail
 refine (int_any n _).mono ?_
 rintro e w1 ⟨rfl, e1⟩
 obtain ⟨z0, z1, z2, y0, y1, y2⟩ := three (HB.out.ext e1)
 have hlt := (HB.out.ext e1).lt
 have E1 := Lib.hid (HE.out.trans e1)
 clear e1
 go_wp2_with fail
 exact bodyPost_ret (v := (iK n).v) (by simp [results, Tryz.results33, go_sem, iK, sNone, *]) rfl ⟨rfl, (((E1.out).setCell (by simp) _).setCell (by simp) _).setCell (by simp) _⟩
set_option maxRecDepth 100000 in
set_option maxHeartbeats 1000000 in
theorem text_do (g : Nat) (tv : Value) (rs : List (Nat × Nat)) (H : Hp) (w : World) (h : HeapIn w g tv rs H) (hb : Nat) (HX : Blk w hb 28 #[.pointer (some ⟨g, 0, none⟩)]) (hn : ¬ Foot g tv rs hb) (k n : Int) (s : ByteArray) (hz : s.size ≤ 9223372036854775807) (q : Option Addr) (m c : Nat) :
  Calls Tryz.prog 34 #[.agg #[.int .i64 k, .int .i64 n, .string s, .slice q m c], .pointer (some ⟨hb, 0, none⟩)] w
   (VayE w g tv rs (if mkW H.cells H.spent s = sNone then (sNone, tK s, mkH H s) else (mkW H.cells H.spent s, Vl.zero, mkH H s))) := by
 have HE := Lib.hid (((Ext.refl w).alloc (.cells #[.int .i64 k, .int .i64 n, .string s, .slice q m c] 25)).alloc (.cells #[.int .i64 0, .int .i64 0, .string ⟨#[]⟩] 34))
 have HB : Hid (Blk ((w.alloc (.cells #[.int .i64 k, .int .i64 n, .string s, .slice q m c] 25)).alloc (.cells #[.int .i64 0, .int .i64 0, .string ⟨#[]⟩] 34)) (w.heap.size + 1) 34 #[.int .i64 0, .int .i64 0, .string ⟨#[]⟩]) := Lib.hid (by
  have := Blk.new (w.alloc (.cells #[.int .i64 k, .int .i64 n, .string s, .slice q m c] 25)) 34 #[.int .i64 0, .int .i64 0, .string ⟨#[]⟩]
  rwa [size_alloc] at this)
 have c0 := (HX.ext HE.out).cell 0
 simp only [List.getElem?_toArray, List.getElem?_cons_zero, List.getElem?_cons_succ] at c0
 have HI := Lib.hid (h.ext HE.out)
 have HN : Hid (¬ Foot g tv rs (w.heap.size + 1)) := Lib.hid (fun hx => by have := h.low hx; omega)
 have HH := Lib.hid h
 obtain ⟨mw, hmw⟩ : ∃ mw, mkW H.cells H.spent s = mw := ⟨_, rfl⟩
 obtain ⟨mv, hmv⟩ : ∃ mv, mkV H.cells H.spent s = mv := ⟨_, rfl⟩
 have hc := fun (W : World) (hW : HeapIn W g tv rs H) => make_step g tv rs H s W hW hz
 rw [hmw, hmv] at hc
 rw [hmw]
 obtain ⟨r, hr⟩ : ∃ r, (if mw = sNone then (sNone, tK s, mkH H s) else (mw, Vl.zero, mkH H s) : Br3) = r := ⟨_, rfl⟩
 rw [hr]
 have HR1 : Hid (mw = sNone → r = (sNone, tK s, mkH H s)) := Lib.hid (fun hh => by rw [← hr, if_pos hh])
 have HR0 : Hid (¬ mw = sNone → r = (mw, Vl.zero, mkH H s)) := Lib.hid (fun hh => by rw [← hr, if_neg hh])
 clear hr
 have HC := Lib.hid hc
 have HMV : Hid (mw = sNone → mv = tK s) := Lib.hid (fun hh => by rw [← hmv]; exact mkV_yes (hmw.trans hh))
 clear h HX hc hmw hmv
 go_enter Tryz.func34, Tryz.ntmps34
 go_wp2_with fail
 refine (HC.out _ HI.out).mono ?_
 rintro e w1 ⟨rfl, s1⟩
 have S1 := Lib.hid (HS.pre HE.out s1)
 have B1 := HB.out.step s1 HN.out
 have HB1 := Lib.hid B1
 clear s1 B1 c0
 rcases Decidable.em (mw = sNone) with hs | hs
 ·obtain rfl := HMV.out hs
  obtain rfl := HR1.out hs
  subst hs
  clear HR1 HR0 HMV
  go_wp2_with fail
  refine (got_yes (tK s) _).mono ?_
  rintro e w2 ⟨rfl, e2⟩
  obtain ⟨z0, z1, z2, y0, y1, y2⟩ := three (HB1.out.ext e2)
  have hlt := (HB1.out.ext e2).lt
  have S2 := Lib.hid (S1.out.ext e2)
  clear e2
  unfold tK
  go_wp2_with fail
  exact bodyPost_ret (v := (tK s).v) (by simp [results, Tryz.results34, go_sem, tK, *]) rfl (VayE.mk1 rfl rfl (S2.out.set3 (Nat.le_succ _) HN.out _ _ _))
 ·go_wp2_with fail
  refine (got_no mv mw hs _).mono ?_
  rintro e w2 ⟨he, e2⟩
  unfold Fails at he
  subst he
  go_wp2_with fail
  exact ⟨rfl, by rw [HR0.out hs]; exact VayE.mk0 hs rfl (S1.out.ext e2)⟩
end Go.Proofs.YtlfihdcgbhdajaaGreatDoor
namespace Go.Proofs.YtlfihdcgbhdajaaGreatDoor
open Go.RowKit
set_option linter.unusedVariables false
set_option linter.unusedSimpArgs false

theorem assert_bfail (c : ByteArray) (w : World) : (Instr.typeAssert (.iface 107 (.agg #[.string c])) 20 107 true).run Tryz.prog w = .ok (.tuple #[.agg #[.string c], .bool true]) w := by kernel_rfl
set_option maxRecDepth 100000 in
set_option maxHeartbeats 1000000 in
theorem bcaught_panic (why s0 : ByteArray) (B : Nat) (older : List PanicEntry) (w : World) (h : Blk w B 9 #[.string s0]) :
  CallsD Tryz.prog 25 #[.pointer (some ⟨B, 0, none⟩)] (.panicking ({ v := bfailV why, recovered := false } :: older)) w fun e u' w' =>
   e = .returned (.tuple #[]) ∧ u' = .panicking ({ v := bfailV why, recovered := true } :: older) ∧ Only B w w' ∧ Blk w' B 9 #[.string why] := by
 have ha := assert_bfail why
 have a0 := h.cell 0
 have f0 := h.frozen 0
 have l0 := h.lt
 have ne : ¬ B = w.heap.size := by omega
 have ne2 : ¬ w.heap.size = B := by omega
 simp only [List.getElem?_toArray, List.getElem?_cons_zero, List.getElem?_cons_succ] at a0
 have fin : Only B w ((w.setCell ⟨B, 0, none⟩ (.string why)).alloc (.cells #[.string why] 107)) ∧ Blk ((w.setCell ⟨B, 0, none⟩ (.string why)).alloc (.cells #[.string why] 107)) B 9 #[.string why] :=
  ⟨((Only.refl B w).setCell (.inl rfl) _).alloc _, Blk.alloc (by simpa using h.set_ 0 (.string why)) _⟩
 obtain ⟨R, hR⟩ : ∃ R : Ending → FrameMode → World → Prop, R = fun e u' w' => e = .returned (.tuple #[]) ∧ u' = .panicking ({ v := bfailV why, recovered := true } :: older) ∧ Only B w w' ∧ Blk w' B 9 #[.string why] := ⟨_, rfl⟩
 have FIN : Hid (R (.returned (.tuple #[])) (.panicking ({ v := bfailV why, recovered := true } :: older)) ((w.setCell ⟨B, 0, none⟩ (.string why)).alloc (.cells #[.string why] 107))) := Lib.hid (by rw [hR]; exact ⟨rfl, rfl, fin.1, fin.2⟩)
 rw [← hR]
 unfold bfailV at FIN
 clear fin h hR
 refine callsD_of_wpS Tryz.func25 rfl fun c₀ cs hu => ?_
 unfold bfailV at hu
 apply wpS_seq
 apply wpS_region
 simp [wpOpsS, go_sem, recoverD, hu, Tryz.ntmps25, Exit.thenS]
 refine wpS_of_wp ?_
 change Code.wp _ _ _ { tmps := #[.pointer (some ⟨B, 0, none⟩), undef, undef, undef, undef, .iface 107 (.agg #[.string why]), undef, undef, undef, undef, undef, undef, undef, undef, undef], defers := [] } w
 generalize hcs : (_ :: cs : List Frame) = cs'
 go_wp2_with fail
 subst hcs
 simp [Exit.inBlock, bodyPostS, results, Tryz.results25]
 exact FIN.out
theorem bcaught_idle (a : Value) (w : World) : CallsD Tryz.prog 25 #[a] .returning w fun e u' w' => e = .returned (.tuple #[]) ∧ u' = .returning ∧ w' = w := by
 refine callsD_of_wpS Tryz.func25 rfl fun c₀ cs hu => ?_
 apply wpS_seq
 apply wpS_region
 simp [wpOpsS, go_sem, recoverD, hu, Tryz.ntmps25, Exit.thenS]
 refine wpS_of_wp ?_
 go_wp2_with fail
 cases c₀
 simp_all [bodyPostS, results, Tryz.results25, Exit.inBlock]
set_option maxRecDepth 100000 in
theorem wipeV_no (B V : Nat) (u : FrameMode) (w : World) (h : Blk w B 9 #[.string ⟨#[]⟩]) : CallsD Tryz.prog 24 #[.pointer (some ⟨B, 0, none⟩), .pointer (some ⟨V, 0, none⟩)] u w fun e u' w' => u' = u ∧ e = .returned (.tuple #[]) ∧ w' = w := by
 have a0 := h.cell 0
 simp only [List.getElem?_toArray, List.getElem?_cons_zero, List.getElem?_cons_succ] at a0
 refine callsD_of_wp Tryz.func24 rfl (R := fun e w' => e = .returned (.tuple #[]) ∧ w' = w) ?_
 change Code.wp _ _ _ { tmps := #[.pointer (some ⟨B, 0, none⟩), .pointer (some ⟨V, 0, none⟩), undef, undef, undef], defers := [] } w
 go_wp2_with fail
 go_end0
 exact ⟨rfl, rfl⟩
set_option maxRecDepth 100000 in
theorem wipeV_yes (B V : Nat) (u : FrameMode) (why : ByteArray) (hy : ¬ why = sNone) (w : World) (h : Blk w B 9 #[.string why]) (a0 a1 a2 : Value) (hv : Blk w V 34 #[a0, a1, a2]) :
  CallsD Tryz.prog 24 #[.pointer (some ⟨B, 0, none⟩), .pointer (some ⟨V, 0, none⟩)] u w fun e u' w' => u' = u ∧ e = .returned (.tuple #[]) ∧ w' = (((w.setCell ⟨V, 0, none⟩ (.int .i64 0)).setCell ⟨V, 1, none⟩ (.int .i64 0)).setCell ⟨V, 2, none⟩ (.string ⟨#[]⟩)) := by
 have a0 := h.cell 0
 have b0 := hv.cell 0
 have b1 := hv.cell 1
 have b2 := hv.cell 2
 have f0 := hv.frozen 0
 have f1 := hv.frozen 1
 have f2 := hv.frozen 2
 have lv := hv.lt
 simp only [List.getElem?_toArray, List.getElem?_cons_zero, List.getElem?_cons_succ] at a0 b0 b1 b2
 have hq : ¬ why.toList = [] := ne_list hy
 have hq2 : why.toList.isEmpty = false := by cases hw : why.toList with | nil => exact absurd hw hq | cons _ _ => rfl
 refine callsD_of_wp Tryz.func24 rfl (R := fun e w' => e = .returned (.tuple #[]) ∧ w' = (((w.setCell ⟨V, 0, none⟩ (.int .i64 0)).setCell ⟨V, 1, none⟩ (.int .i64 0)).setCell ⟨V, 2, none⟩ (.string ⟨#[]⟩))) ?_
 change Code.wp _ _ _ { tmps := #[.pointer (some ⟨B, 0, none⟩), .pointer (some ⟨V, 0, none⟩), undef, undef, undef], defers := [] } w
 clear h hv
 go_wp2_with fail
 go_end0
 exact ⟨rfl, rfl⟩
set_option maxRecDepth 100000 in
theorem wipeR_no (B V : Nat) (u : FrameMode) (w : World) (h : Blk w B 9 #[.string ⟨#[]⟩]) : CallsD Tryz.prog 48 #[.pointer (some ⟨B, 0, none⟩), .pointer (some ⟨V, 0, none⟩)] u w fun e u' w' => u' = u ∧ e = .returned (.tuple #[]) ∧ w' = w := by
 have a0 := h.cell 0
 simp only [List.getElem?_toArray, List.getElem?_cons_zero, List.getElem?_cons_succ] at a0
 refine callsD_of_wp Tryz.func48 rfl (R := fun e w' => e = .returned (.tuple #[]) ∧ w' = w) ?_
 change Code.wp _ _ _ { tmps := #[.pointer (some ⟨B, 0, none⟩), .pointer (some ⟨V, 0, none⟩), undef, undef, undef], defers := [] } w
 go_wp2_with fail
 go_end0
 exact ⟨rfl, rfl⟩
set_option maxRecDepth 100000 in
theorem wipeR_yes (B V : Nat) (u : FrameMode) (why : ByteArray) (hy : ¬ why = sNone) (w : World) (h : Blk w B 9 #[.string why]) (a0 a1 a2 a3 : Value) (hv : Blk w V 25 #[a0, a1, a2, a3]) :
  CallsD Tryz.prog 48 #[.pointer (some ⟨B, 0, none⟩), .pointer (some ⟨V, 0, none⟩)] u w fun e u' w' => u' = u ∧ e = .returned (.tuple #[]) ∧ w' = ((((w.setCell ⟨V, 0, none⟩ (.int .i64 0)).setCell ⟨V, 1, none⟩ (.int .i64 0)).setCell ⟨V, 2, none⟩ (.string ⟨#[]⟩)).setCell ⟨V, 3, none⟩ (.slice none 0 0)) := by
 have a0 := h.cell 0
 have b0 := hv.cell 0
 have b1 := hv.cell 1
 have b2 := hv.cell 2
 have b3 := hv.cell 3
 have f0 := hv.frozen 0
 have f1 := hv.frozen 1
 have f2 := hv.frozen 2
 have f3 := hv.frozen 3
 have lv := hv.lt
 simp only [List.getElem?_toArray, List.getElem?_cons_zero, List.getElem?_cons_succ] at a0 b0 b1 b2 b3
 have hq : ¬ why.toList = [] := ne_list hy
 have hq2 : why.toList.isEmpty = false := by cases hw : why.toList with | nil => exact absurd hw hq | cons _ _ => rfl
 refine callsD_of_wp Tryz.func48 rfl (R := fun e w' => e = .returned (.tuple #[]) ∧ w' = ((((w.setCell ⟨V, 0, none⟩ (.int .i64 0)).setCell ⟨V, 1, none⟩ (.int .i64 0)).setCell ⟨V, 2, none⟩ (.string ⟨#[]⟩)).setCell ⟨V, 3, none⟩ (.slice none 0 0))) ?_
 change Code.wp _ _ _ { tmps := #[.pointer (some ⟨B, 0, none⟩), .pointer (some ⟨V, 0, none⟩), undef, undef, undef], defers := [] } w
 clear h hv
 go_wp2_with fail
 go_end0
 exact ⟨rfl, rfl⟩
end Go.Proofs.YtlfihdcgbhdajaaGreatDoor
