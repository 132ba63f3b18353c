/- syntax.All as an iterator; syntax.Count. -/
import Derived.Test.YtkbcnacjaakleaaGreatDoorYP34
import Derived.Test.YtkbcnacjaakleaaGreatDoorYP08
set_option maxRecDepth 100000
set_option maxHeartbeats 32000000
set_option linter.unusedVariables false
set_option linter.unusedSimpArgs false
namespace Go.Proofs.YtkbcnacjaakleaaGreatDoor
open Go.RowKit Go.Shelf
attribute [local go_sem] Oper.semAt_some

theorem store_fn {P : Program} {a : Addr} {m : Mode} {w : World} (fn : Fn) (first captured : Array Value) : (store a (.func fn first captured) m).run P w = stored P w a (.func fn first captured) m := run_store P w a _ m rfl
attribute [local go_sem] store_fn
theorem allN_in (n : Nat) (x : Nd) (nv lv : Value) (w : World) (hs : ∃ q n c q' n' c', nv = .slice q n c ∧ lv = .slice q' n' c') :
  CallsIn Fence.wide n Tryz.prog 18 #[ndV x nv lv] w fun e w' => e = .returned (.func (.func 39) #[] #[.pointer (some ⟨w.heap.size, 0, none⟩)]) ∧ w.alloc (.cells #[.int .i64 x.k, .string x.name, .string x.text, .int .i64 x.n, nv, lv] 28) = w' := by
 obtain ⟨q, m, c, q', m', c', rfl, rfl⟩ := hs
 have hmf : ∀ (fn : Fn) (first cap : Array Value) (w : World), (Instr.makeFunc fn first cap).run Tryz.prog w = .ok (.func fn first cap) w := fun _ _ _ _ => rfl
 refine callsIn_of_wp Tryz.func18 rfl trivial ?_ rfl
 simp only [Tryz.ntmps18, List.size_toArray, List.length_cons, List.length_nil, Nat.reduceAdd, Nat.reduceSub, Array.replicate_succ, Array.replicate_zero, List.push_toArray, List.append_toArray, List.nil_append, List.cons_append]
 gi_wp2
 go_ret
 exact ⟨rfl, rfl⟩
theorem nodes_in (n B C b : Nat) (w : World) (x : Nd) (nv lv : Value) (d : Nat) (hs : SzN x) (ht : TxtsAt (· < B) w nv x.names) (hk : KidsAt (· < B) w d lv x.kids) (hBC : B ≤ C) (hb : C ≤ b) (hCw : C ≤ w.heap.size)
  (hbx : Blk w b 28 #[.int .i64 x.k, .string x.name, .string x.text, .int .i64 x.n, nv, lv]) :
  SeqR Fence.wide n Tryz.prog 39 #[.pointer (some ⟨b, 0, none⟩)] encNd (KpT B C) (RNd w B x) (fun _ => True) (fun xs => xs.map (·.1) = preN x) (fun _ => True) w := fun l J Jx W hW hJ hJx hY h0 => by
 have hmf : ∀ (fn : Fn) (first cap : Array Value) (w : World), (Instr.makeFunc fn first cap).run Tryz.prog w = .ok (.func fn first cap) w := fun _ _ _ _ => rfl
 have hbl := hbx.lt
 have hWs := hW.size
 have HB := Lib.hid (show Blk W b 28 #[.int .i64 x.k, .string x.name, .string x.text, .int .i64 x.n, nv, lv] from (hW.block b hbl).trans hbx)
 obtain ⟨qn, cn, rfl⟩ := ht.slice
 obtain ⟨ql, cl, rfl⟩ := hk.slice
 obtain ⟨nn, hnn⟩ : ∃ n, x.names.length = n := ⟨_, rfl⟩
 obtain ⟨kn, hkn⟩ : ∃ n, x.kids.length = n := ⟨_, rfl⟩
 rw [hnn] at ht HB
 rw [hkn] at hk HB
 have c0 : W.cell? ⟨b, 0, none⟩ = some (.int .i64 x.k) := HB.out.cell 0
 have c1 : W.cell? ⟨b, 1, none⟩ = some (.string x.name) := HB.out.cell 1
 have c2 : W.cell? ⟨b, 2, none⟩ = some (.string x.text) := HB.out.cell 2
 have c3 : W.cell? ⟨b, 3, none⟩ = some (.int .i64 x.n) := HB.out.cell 3
 have c4 : W.cell? ⟨b, 4, none⟩ = some (.slice qn nn cn) := HB.out.cell 4
 have c5 : W.cell? ⟨b, 5, none⟩ = some (.slice ql kn cl) := HB.out.cell 5
 have hbW := HB.out.lt
 have HE : ∀ s W W', J s W → Ext W W' → J s W' := fun s W W' h he => hJ s W W' none h he.grownBy (fun r e => by cases e)
 have HBL := Lib.hid (fun k hk => hW.block k hk)
 have HV := Lib.hid (fun yb sb (h1 : C ≤ yb) (h2 : C ≤ sb) => visit_in B C yb sb l (n - 1) w x hBC h1 h2 J Jx HE hY d)
 clear hY hJ hJx
 refine callsIn_of_wp Tryz.func39 rfl trivial ?_ rfl
 simp only [Tryz.ntmps39, List.size_toArray, List.length_cons, List.length_nil, Nat.reduceAdd, Nat.reduceSub, Array.replicate_succ, Array.replicate_zero, List.push_toArray, List.append_toArray, List.nil_append, List.cons_append]
 gi_wp2
 have E := ((Ext.refl W).alloc (.cells #[.func (.yield l) #[] #[]] 29)).alloc (.cells #[.func (.func 40) #[] #[.pointer (some ⟨W.heap.size, 0, none⟩), .pointer (some ⟨W.heap.size + 1, 0, none⟩)]] 29)
 have by0 : Blk ((W.alloc (.cells #[.func (.yield l) #[] #[]] 29)).alloc (.cells #[.func (.func 40) #[] #[.pointer (some ⟨W.heap.size, 0, none⟩), .pointer (some ⟨W.heap.size + 1, 0, none⟩)]] 29)) W.heap.size 29 #[.func (.yield l) #[] #[]] := (Blk.new W _ _).alloc _
 have bs0 : Blk ((W.alloc (.cells #[.func (.yield l) #[] #[]] 29)).alloc (.cells #[.func (.func 40) #[] #[.pointer (some ⟨W.heap.size, 0, none⟩), .pointer (some ⟨W.heap.size + 1, 0, none⟩)]] 29)) (W.heap.size + 1) 29 #[.func (.func 40) #[] #[.pointer (some ⟨W.heap.size, 0, none⟩), .pointer (some ⟨W.heap.size + 1, 0, none⟩)]] := new_at (by simp) _
 refine ⟨trivial, fun h => by simp [Fence.wide] at h, (HV.out W.heap.size (W.heap.size + 1) (by omega) (by omega) (n - 1) x _ _ [] [] _ hs ht hk (by simp) (fun k hk => (E.block k (by omega)).trans (HBL.out k (by omega))) (by have := E.le; omega) by0 bs0 (HE _ _ _ h0 E)).mono ?_⟩
 rintro e W5 (⟨rfl, k5, pre3, hJ5, hp5⟩ | ⟨rfl, pre3, hJx5⟩)
 ·clear c0 c1 c2 c3 c4 c5
  gi_wp2
  first | go_end0 | refine bodyPost_ret (results_none rfl _ _ _) rfl ?_
  exact ⟨⟨_, rfl⟩, .inl ⟨_, by rw [hp5]; rfl, hJ5⟩⟩
 ·clear c0 c1 c2 c3 c4 c5
  gi_wp2
  first | go_end0 | refine bodyPost_ret (results_none rfl _ _ _) rfl ?_
  exact ⟨⟨_, rfl⟩, .inr ⟨_, trivial, hJx5⟩⟩
structure CntI (w : World) (k : Nat) (W : World) : Prop where
 box : Blk W (w.heap.size + 1) 3 #[.int .i64 (k : Int)]
 ext : Ext w W
theorem CntI.kept {w W W' : World} {k : Nat} (h : CntI w k W) {row : Option Nat} (hg : W.grownBy W' row) (hr : ∀ r, row = some r → w.heap.size + 2 ≤ r) : CntI w k W' := by
 have hne : ∀ k, k < w.heap.size + 2 → some k ≠ row := fun k hk e => by have := hr k e.symm; omega
 exact ⟨(hg.block _ h.box.lt (hne _ (by omega))).trans h.box, Below.grown h.ext hg h.ext.size (fun k e => by have := hr k e; omega)⟩
theorem CntI.up {w W : World} {k : Nat} (h : CntI w k W) (v : Value) (hv : v = .int .i64 ((k + 1 : Nat) : Int)) : CntI w (k + 1) (W.setCell ⟨w.heap.size + 1, 0, none⟩ v) := by
 subst hv
 exact ⟨by simpa using h.box.set_ 0 (.int .i64 ((k + 1 : Nat) : Int)), h.ext.setCell (by show w.heap.size ≤ w.heap.size + 1; omega) _⟩
theorem KpT.setC {B C : Nat} (W : World) {b : Nat} (hB : B ≤ b) (hC : b < C) (v : Value) : KpT B C W (W.setCell ⟨b, 0, none⟩ v) :=
 ⟨fun k hk => Below.heap_setCell _ _ _ k (by show k ≠ b; omega), fun k o hk ho _ => (Below.heap_setCell _ _ _ k (by show k ≠ b; omega)).trans ho⟩
def countT (x : Nd) : Nat := if (preN x).length < 1048576 then (preN x).length else 1048576
theorem scount_any (d : Nat) (w : World) (x : Nd) (v : Value) (hs : SzN x) (h : NodeAt (· < w.heap.size) w d v x) :
  Calls Tryz.prog 23 #[v] w fun e w' => e = .returned (.int .i64 (countT x : Nat)) ∧ Ext w w' := by
 obtain ⟨nv, lv, rfl, ht, hk⟩ := h
 obtain ⟨qn, cn, rfl⟩ := ht.slice
 obtain ⟨ql, cl, rfl⟩ := hk.slice
 obtain ⟨nn, hnn⟩ : ∃ n, x.names.length = n := ⟨_, rfl⟩
 obtain ⟨kn, hkn⟩ : ∃ n, x.kids.length = n := ⟨_, rfl⟩
 rw [hnn] at ht ⊢
 rw [hkn] at hk ⊢
 refine (callsIn_wide (n := 5)).1 ?_
 refine callsIn_of_wp_marks Tryz.func23 rfl trivial ?_ rfl
 simp only [Tryz.ntmps23, List.size_toArray, List.length_cons, List.length_nil, Nat.reduceAdd, Nat.reduceSub, Array.replicate_succ, Array.replicate_zero, List.push_toArray, List.append_toArray, List.nil_append, List.cons_append]
 gi_wp2
 refine ⟨trivial, (allN_in 4 x (.slice qn nn cn) (.slice ql kn cl) _ ⟨_, _, _, _, _, _, rfl, rfl⟩).mono ?_⟩
 rintro e w' ⟨rfl, rfl⟩
 gi_wp2
 obtain ⟨W0, hW0⟩ : ∃ W0, (((w.alloc (.cells #[.int .i64 x.k, .string x.name, .string x.text, .int .i64 x.n, .slice qn nn cn, .slice ql kn cl] 28)).alloc (.cells #[.int .i64 0] 3)).alloc (.cells #[.int .i64 x.k, .string x.name, .string x.text, .int .i64 x.n, .slice qn nn cn, .slice ql kn cl] 28)) = W0 := ⟨_, rfl⟩
 have HE0 : Hid (Ext w W0) := Lib.hid (by rw [← hW0]; exact (((Ext.refl w).alloc _).alloc _).alloc _)
 have hsz0 : W0.heap.size = w.heap.size + 3 := by rw [← hW0]; simp
 have hb2 : Blk W0 (w.heap.size + 2) 28 #[.int .i64 x.k, .string x.name, .string x.text, .int .i64 x.n, .slice qn nn cn, .slice ql kn cl] := by rw [← hW0]; exact new_at (by simp) _
 have hI0 : CntI w 0 W0 := ⟨by rw [← hW0]; exact (show Blk _ (w.heap.size + 1) _ _ from new_at (by simp) _ : Blk _ _ 3 #[.int .i64 0]).alloc _, HE0.out⟩
 show Code.wpIn _ _ _ _ _ _ (((w.alloc (.cells #[.int .i64 x.k, .string x.name, .string x.text, .int .i64 x.n, .slice qn nn cn, .slice ql kn cl] 28)).alloc (.cells #[.int .i64 0] 3)).alloc (.cells #[.int .i64 x.k, .string x.name, .string x.text, .int .i64 x.n, .slice qn nn cn, .slice ql kn cl] 28))
 rw [hW0]
 clear hW0
 have ht0 := ht.ext HE0.out
 have hk0 := hk.ext HE0.out
 clear ht hk
 refine wpIn_rangeFunc_R rfl (by omega) (gf := 39) (lb := #[.pointer (some ⟨w.heap.size + 2, 0, none⟩)]) rfl trivial (enters_of Tryz.func39 (by kernel_rfl) rfl)
  (nodes_in 4 w.heap.size (w.heap.size + 2) (w.heap.size + 2) W0 x (.slice qn nn cn) (.slice ql kn cl) d hs ht0 hk0 (by omega) (by omega) (by omega) hb2)
  KpT.t (KpT.b (by omega)) (Below.refl _ _) (fun _ => rfl)
  (fun pre W => CntI w pre.length W ∧ pre.length < 1048576) (fun c pre W => c = .exit 0 ∧ CntI w 1048576 W ∧ pre.length = 1048576 ∧ pre.length ≤ (preN x).length) ?own ?ownx ⟨hI0, by decide⟩
  (fun r a' W => ∃ u, a' = { tmps := #[ndV x (.slice qn nn cn) (.slice ql kn cl), .pointer (some ⟨w.heap.size, 0, none⟩), .int .i64 0, .pointer (some ⟨w.heap.size + 1, 0, none⟩), .agg #[.int .i64 x.k, .string x.name, .string x.text, .int .i64 x.n, .slice qn nn cn, .slice ql kn cl], .func (.func 39) #[] #[.pointer (some ⟨w.heap.size + 1 + 1, 0, none⟩)], u, undef, undef, undef, undef, undef], defers := [] })
  ?ownax ?assign ?body ?done ?stop
 case own =>
  rintro pre X Y row ⟨h1, h2⟩ hg hr
  exact ⟨h1.kept hg (fun r e => by have := (hr r e).1; omega), h2⟩
 case ownx =>
  rintro c pre X Y row ⟨hc, h1, h2⟩ hg hr
  exact ⟨hc, h1.kept hg (fun r e => by have := (hr r e).1; omega), h2⟩
 case ownax =>
  rintro r a' X Y row h hg hr
  exact h
 case assign =>
  rintro q pre r W K hI hR hK
  gi_wp2
  exact hK _ _ (KeepsFrom.refl _ _) (KpT.of_ext (Ext.refl _) (by have := hI.1.ext.le; omega)) hI ⟨ndV r.1 r.2.1 r.2.2, by simp [encNd]⟩
 case body =>
  rintro q pre r a' W ⟨hI, hlt⟩ hR ⟨u, rfl⟩
  have hp : pre.length + 1 ≤ (preN x).length := by
   obtain ⟨tail, ht⟩ := hR.next
   rw [ht, List.length_append, List.length_map, List.length_cons]
   omega
  have HI := Lib.hid hI
  have c0 : W.cell? ⟨w.heap.size + 1, 0, none⟩ = some (.int .i64 (pre.length : Int)) := hI.box.cell 0
  have f0 : W.frozen? ⟨w.heap.size + 1, 0, none⟩ = false := hI.box.frozen 0
  have l0 : w.heap.size + 1 < W.heap.size := hI.box.lt
  have hwr : IntKind.i64.wrap ((pre.length : Int) + 1) = (pre.length : Int) + 1 := IntWalk.i64_in _ (by omega)
  have HU := Lib.hid (hI.up (.int .i64 ((pre.length : Int) + 1)) (by simp))
  have HKT := Lib.hid (KpT.setC (B := w.heap.size) (C := w.heap.size + 2) W (b := w.heap.size + 1) (by omega) (by omega) (.int .i64 ((pre.length : Int) + 1)))
  have HLN := Lib.hid (show (pre ++ [r]).length = pre.length + 1 by simp)
  have HP := Lib.hid hp
  clear hI hR hp
  obtain ⟨k, hk⟩ : ∃ k, pre.length = k := ⟨_, rfl⟩
  rw [hk] at c0 hwr HU HKT HLN hlt HP
  clear hk HI
  by_cases hend : k + 1 < 1048576
  ·have d1 : decide ((1048576 : Int) ≤ (k : Int) + 1) = false := decide_eq_false (by omega)
   have HEND := Lib.hid hend
   clear hend hlt
   gi_wp2
   exact ⟨(KeepsOthers.setCell _ _ _).from _, HKT.out, trivial, by rw [HLN.out]; exact HU.out, by rw [HLN.out]; exact HEND.out⟩
  ·have d1 : decide ((1048576 : Int) ≤ (k : Int) + 1) = true := decide_eq_true (by omega)
   have HK1 := Lib.hid (show k + 1 = 1048576 by omega)
   clear hend hlt
   gi_wp2
   exact ⟨(KeepsOthers.setCell _ _ _).from _, rfl, HK1.out ▸ HU.out, HLN.out.trans HK1.out, by rw [HLN.out]; exact HP.out⟩
 case done =>
  rintro D ys W hD hys ⟨hI, hlt⟩ hK
  have hlen : ys.length = (preN x).length := by rw [← hys, List.length_map]
  have HI := Lib.hid hI
  have c0 : W.cell? ⟨w.heap.size + 1, 0, none⟩ = some (.int .i64 (ys.length : Int)) := hI.box.cell 0
  have hc : countT x = ys.length := by unfold countT; rw [← hlen, if_pos hlt]
  clear hI
  have HC := Lib.hid hc
  have HHI := Lib.hid HI
  clear hc HI hys hlen
  gi_wp2
  refine ⟨by simp, .inl ⟨_, _, rfl, run_takeDeferred hK, ?_⟩⟩
  have hI4 := HHI.out.out.kept (grownBy_putObj' W D (.deferred none)) (fun r e => by cases e; omega)
  exact ⟨.int .i64 (ys.length : Int), by simp [results, Tryz.f23, go_sem], by rw [HC.out], hI4.ext⟩
 case stop =>
  rintro D c pre W hD _ ⟨rfl, hI, hlen, hle⟩ hK
  have HI := Lib.hid hI
  have c0 : W.cell? ⟨w.heap.size + 1, 0, none⟩ = some (.int .i64 (1048576 : Int)) := hI.box.cell 0
  have hc : countT x = 1048576 := by unfold countT; rw [if_neg (by omega)]
  clear hI
  have HC := Lib.hid hc
  have HHI := Lib.hid HI
  clear hc HI hlen hle
  gi_wp2
  refine ⟨by simp, .inl ⟨_, _, rfl, run_takeDeferred hK, ?_⟩⟩
  have hI4 := HHI.out.out.kept (grownBy_putObj' W D (.deferred none)) (fun r e => by cases e; omega)
  exact ⟨.int .i64 1048576, by simp [results, Tryz.f23, go_sem], by rw [HC.out]; rfl, hI4.ext⟩
end Go.Proofs.YtkbcnacjaakleaaGreatDoor
