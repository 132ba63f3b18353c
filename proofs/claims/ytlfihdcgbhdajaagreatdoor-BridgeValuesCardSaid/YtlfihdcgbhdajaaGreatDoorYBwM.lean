/- A value's reply by its kind. -/
import Derived.Test.YtlfihdcgbhdajaaGreatDoorYB7
namespace Go.Proofs.YtlfihdcgbhdajaaGreatDoor
open Go.RowKit
set_option linter.unusedVariables false
set_option linter.unusedSimpArgs false

theorem Only.ne_some {k wb : Nat} (h : k ≠ wb) : ¬ (some k = some wb) := fun e => h (Option.some.inj e)
theorem RepV.put4 {ok : Nat → Prop} {w : World} {D k : Nat} {rv : Value} {x : Rep} (h : RepV ok w D rv x) (hk : ∀ b, ok b → b ≠ k) (u0 u1 u2 u3 : Value) : RepV ok ((((w.setCell ⟨k, 0, none⟩ u0).setCell ⟨k, 1, none⟩ u1).setCell ⟨k, 2, none⟩ u2).setCell ⟨k, 3, none⟩ u3) D rv x := by
 obtain ⟨lv, e, hl⟩ := h
 have hh : ∀ b, b ≠ k → ((((w.setCell ⟨k, 0, none⟩ u0).setCell ⟨k, 1, none⟩ u1).setCell ⟨k, 2, none⟩ u2).setCell ⟨k, 3, none⟩ u3).heap[b]? = w.heap[b]? := fun b hb => heap4 w hb u0 u1 u2 u3
 generalize (((w.setCell ⟨k, 0, none⟩ u0).setCell ⟨k, 1, none⟩ u1).setCell ⟨k, 2, none⟩ u2).setCell ⟨k, 3, none⟩ u3 = w' at hh ⊢
 refine ⟨lv, e, hl.keep (fun b o v hb hc => ?_) (fun _ _ h => h)⟩
 exact (World.cell?_of_block (hh b (hk b hb))).trans hc
theorem RepV.weak {ok ok' : Nat → Prop} {w : World} {D : Nat} {rv : Value} {x : Rep} (h : RepV ok w D rv x) (hk : ∀ b, ok b → ok' b) : RepV ok' w D rv x := by
 obtain ⟨lv, e, hl⟩ := h
 exact ⟨lv, e, hl.keep (fun _ _ _ _ hc => hc) (fun b _ hb => hk b hb)⟩
theorem BepE.put {w W W1 : World} {wb g D k : Nat} {r : RepX} {rv : Value} (hE : Ext w W) (hk : w.heap.size ≤ k) (hk2 : k < W.heap.size) (hne : wb < w.heap.size) (h : BepE W wb g D r (.returned rv) W1) (u0 u1 u2 u3 : Value) :
  BepE w wb g D r (.returned rv) ((((W1.setCell ⟨k, 0, none⟩ u0).setCell ⟨k, 1, none⟩ u1).setCell ⟨k, 2, none⟩ u2).setCell ⟨k, 3, none⟩ u3) := by
 obtain ⟨ho, hr⟩ := h
 refine ⟨only4 ((Only.of_ext hE).trans ho) hk _ _ _ _, ?_⟩
 cases r with
 | ok x =>
  obtain ⟨rv', e, hv, hw⟩ := hr
  exact ⟨rv', e, RepV.weak (RepV.put4 hv (fun b hb => by omega) _ _ _ _) (fun b hb => Nat.le_trans hE.le hb), far4 hw (by omega) _ _ _ _⟩
 | error why => cases hr
theorem BepE.pre {w W W1 : World} {wb g D : Nat} {r : RepX} {c : List PanicEntry} (hE : Ext w W) (h : BepE W wb g D r (.panicked c) W1) : BepE w wb g D r (.panicked c) W1 := by
 obtain ⟨ho, hr⟩ := h
 refine ⟨(Only.of_ext hE).trans ho, ?_⟩
 cases r with
 | ok x => obtain ⟨rv', e, _⟩ := hr; cases e
 | error why => exact hr
theorem BepE.ways {w w' : World} {wb g D : Nat} {r : RepX} {e : Ending} (h : BepE w wb g D r e w') : (∃ k n s q m c, e = .returned (.agg #[.int .i64 k, .int .i64 n, .string s, .slice q m c])) ∨ ∃ c, e = .panicked c := by
 obtain ⟨_, hr⟩ := h
 cases r with
 | ok x =>
  obtain ⟨rv, e1, ⟨lv, e2, hl⟩, _⟩ := hr
  obtain ⟨q, c, e3⟩ := hl.slice
  exact .inl ⟨_, _, _, _, _, _, by rw [e1, e2, e3]⟩
 | error why => exact .inr ⟨_, hr⟩
set_option maxRecDepth 100000 in
set_option maxHeartbeats 1000000 in
theorem rtab_close (w : World) (wb g b3 b4 b5 D d : Nat) (v : Vl) (r : RepX) (hwb : wb < w.heap.size) (B3 : Blk w b3 94 #[.pointer (some ⟨wb, 0, none⟩)]) (B4 : Blk w b4 34 #[.int .i64 v.k, .int .i64 v.n, .string v.s]) (B5 : Blk w b5 3 #[.int .i64 (d : Int)])
  (hc : ∀ W, Ext w W → Calls Tryz.prog 72 #[.pointer (some ⟨wb, 0, none⟩), v.v, .int .i64 (d : Int)] W (BepE W wb g D r)) :
  Calls Tryz.prog 71 #[.pointer (some ⟨b3, 0, none⟩), .pointer (some ⟨b4, 0, none⟩), .pointer (some ⟨b5, 0, none⟩)] w (BepE w wb g D r) := by
 have e1 := (Ext.refl w).alloc (.cells #[.int .i64 0, .int .i64 0, .string ⟨#[]⟩, .slice none 0 0] 25)
 have HE := Lib.hid e1
 have R := Lib.hid (Blk.new w 25 #[.int .i64 0, .int .i64 0, .string ⟨#[]⟩, .slice none 0 0])
 have c3 := (B3.ext e1).cell 0
 have c4 := (B4.ext e1).cell 0
 have c5 := (B4.ext e1).cell 1
 have c6 := (B4.ext e1).cell 2
 have c7 := (B5.ext e1).cell 0
 have l3 : ¬ b3 = w.heap.size := by have := B3.lt; omega
 have l4 : ¬ b4 = w.heap.size := by have := B4.lt; omega
 have l5 : ¬ b5 = w.heap.size := by have := B5.lt; omega
 simp only [List.getElem?_toArray, List.getElem?_cons_zero, List.getElem?_cons_succ] at c3 c4 c5 c6 c7
 have HC := Lib.hid (hc _ e1)
 have HWB := Lib.hid hwb
 clear e1 hc B3 B4 B5 hwb
 go_enter Tryz.func71, Tryz.ntmps71
 go_wp2_with fail
 refine HC.out.mono ?_
 intro e w1 hB
 have HB := Lib.hid hB
 have O1 := Lib.hid (hB.1)
 have R1 : Hid (Blk w1 w.heap.size 25 #[.int .i64 0, .int .i64 0, .string ⟨#[]⟩, .slice none 0 0]) := Lib.hid ((hB.1.block w.heap.size R.out.lt (Only.ne_some (by have := HWB.out; omega))).trans R.out)
 have HL := Lib.hid R.out.lt
 rcases hB.ways with ⟨k, n, s, q, m, c, he⟩ | ⟨c, he⟩
 ·subst he
  obtain ⟨z0, z1, z2, z3, y0, y1, y2, y3⟩ := four R1.out
  have hlt := R1.out.lt
  clear hB c3 c4 c5 c6 c7
  go_wp2_with fail
  exact bodyPost_ret (v := .agg #[.int .i64 k, .int .i64 n, .string s, .slice q m c]) (by simp [results, Tryz.results71, go_sem, *]) rfl (HB.out.put HE.out (Nat.le_refl _) HL.out HWB.out _ _ _ _)
 ·subst he
  clear hB c3 c4 c5 c6 c7
  go_wp2_with fail
  exact ⟨rfl, HB.out.pre HE.out⟩
set_option maxRecDepth 100000 in
set_option maxHeartbeats 2000000 in
theorem rep_type (w : World) (wb g D d : Nat) (v : Vl) (r : RepX) (hwb : wb < w.heap.size) (hck : v.ck = false) :
  Calls Tryz.prog 49 #[.pointer (some ⟨wb, 0, none⟩), v.v, .int .i64 (d : Int)] w (BepE w wb g D (.error sType)) := by
 have hmf : ∀ (fn : Fn) (first cap : Array Value) (w : World), (Instr.makeFunc fn first cap).run Tryz.prog w = .ok (.func fn first cap) w := fun _ _ _ _ => rfl
 have hmm := @run_makeMap Tryz.prog
 have e0 : Ext w ((((w.alloc (.cells #[.pointer (some ⟨wb, 0, none⟩)] 94)).alloc (.cells #[.int .i64 v.k, .int .i64 v.n, .string v.s] 34)).alloc (.cells #[.int .i64 (d : Int)] 3)).alloc (.cells #[.int .i64 0, .int .i64 0, .string ⟨#[]⟩, .slice none 0 0] 25)) := ((((Ext.refl w).alloc _).alloc _).alloc _).alloc _
 have HE := Lib.hid e0
 have B3 : Hid (Blk ((((w.alloc (.cells #[.pointer (some ⟨wb, 0, none⟩)] 94)).alloc (.cells #[.int .i64 v.k, .int .i64 v.n, .string v.s] 34)).alloc (.cells #[.int .i64 (d : Int)] 3)).alloc (.cells #[.int .i64 0, .int .i64 0, .string ⟨#[]⟩, .slice none 0 0] 25)) w.heap.size 94 #[.pointer (some ⟨wb, 0, none⟩)]) := Lib.hid ((((Blk.new w _ _).alloc _).alloc _).alloc _)
 have B4 : Hid (Blk ((((w.alloc (.cells #[.pointer (some ⟨wb, 0, none⟩)] 94)).alloc (.cells #[.int .i64 v.k, .int .i64 v.n, .string v.s] 34)).alloc (.cells #[.int .i64 (d : Int)] 3)).alloc (.cells #[.int .i64 0, .int .i64 0, .string ⟨#[]⟩, .slice none 0 0] 25)) (w.heap.size + 1) 34 #[.int .i64 v.k, .int .i64 v.n, .string v.s]) := Lib.hid (by
  have := Blk.new (w.alloc (.cells #[.pointer (some ⟨wb, 0, none⟩)] 94)) 34 #[.int .i64 v.k, .int .i64 v.n, .string v.s]
  rw [size_alloc] at this
  exact (this.alloc _).alloc _)
 have B5 : Hid (Blk ((((w.alloc (.cells #[.pointer (some ⟨wb, 0, none⟩)] 94)).alloc (.cells #[.int .i64 v.k, .int .i64 v.n, .string v.s] 34)).alloc (.cells #[.int .i64 (d : Int)] 3)).alloc (.cells #[.int .i64 0, .int .i64 0, .string ⟨#[]⟩, .slice none 0 0] 25)) (w.heap.size + 1 + 1) 3 #[.int .i64 (d : Int)]) := Lib.hid (by
  have := Blk.new ((w.alloc (.cells #[.pointer (some ⟨wb, 0, none⟩)] 94)).alloc (.cells #[.int .i64 v.k, .int .i64 v.n, .string v.s] 34)) 3 #[.int .i64 (d : Int)]
  rw [size_alloc, size_alloc] at this
  exact this.alloc _)
 have B6 : Hid (Blk ((((w.alloc (.cells #[.pointer (some ⟨wb, 0, none⟩)] 94)).alloc (.cells #[.int .i64 v.k, .int .i64 v.n, .string v.s] 34)).alloc (.cells #[.int .i64 (d : Int)] 3)).alloc (.cells #[.int .i64 0, .int .i64 0, .string ⟨#[]⟩, .slice none 0 0] 25)) (w.heap.size + 1 + 1 + 1) 25 #[.int .i64 0, .int .i64 0, .string ⟨#[]⟩, .slice none 0 0]) := Lib.hid (by
  have := Blk.new (((w.alloc (.cells #[.pointer (some ⟨wb, 0, none⟩)] 94)).alloc (.cells #[.int .i64 v.k, .int .i64 v.n, .string v.s] 34)).alloc (.cells #[.int .i64 (d : Int)] 3)) 25 #[.int .i64 0, .int .i64 0, .string ⟨#[]⟩, .slice none 0 0]
  rwa [size_alloc, size_alloc, size_alloc] at this)
 have HWB := Lib.hid hwb
 clear e0 hwb
 have HCK := Lib.hid hck
 clear hck
 go_enter Tryz.func49, Tryz.ntmps49
 go_wp2_with fail
 generalize ((((w.alloc (.cells #[.pointer (some ⟨wb, 0, none⟩)] 94)).alloc (.cells #[.int .i64 v.k, .int .i64 v.n, .string v.s] 34)).alloc (.cells #[.int .i64 (d : Int)] 3)).alloc (.cells #[.int .i64 0, .int .i64 0, .string ⟨#[]⟩, .slice none 0 0] 25)) = W at *
 refine (checkV v false HCK.out _).mono ?_
 rintro e w1 ⟨rfl, e1⟩
 have E1 := Lib.hid (HE.out.trans e1)
 have C3 := Lib.hid (B3.out.ext e1)
 have C4 := Lib.hid (B4.out.ext e1)
 have C5 := Lib.hid (B5.out.ext e1)
 have C6 := Lib.hid (B6.out.ext e1)
 clear e1 B3 B4 B5 B6 HE
 go_wp2_with fail
 refine (bmust_no _ _).mono ?_
 rintro e w2 ⟨he, rfl⟩
 unfold Fails at he
 subst he
 go_wp2_with fail
 exact ⟨rfl, .of_ext E1.out, rfl⟩
set_option maxRecDepth 100000 in
set_option maxHeartbeats 2000000 in
theorem rep_1 (w : World) (wb g D d : Nat) (v : Vl) (r : RepX) (hwb : wb < w.heap.size) (hck : v.ck = true) (hk : v.k = 1)
  (hc : ∀ W, Ext w W → Blk W w.heap.size 94 #[.pointer (some ⟨wb, 0, none⟩)] → Blk W (w.heap.size + 1) 34 #[.int .i64 v.k, .int .i64 v.n, .string v.s] → Blk W (w.heap.size + 1 + 1) 3 #[.int .i64 (d : Int)] → Calls Tryz.prog 67 #[.pointer (some ⟨(w.heap.size + 1), 0, none⟩)] W (BepE W wb g D r)) :
  Calls Tryz.prog 49 #[.pointer (some ⟨wb, 0, none⟩), v.v, .int .i64 (d : Int)] w (BepE w wb g D r) := by
 have hmf : ∀ (fn : Fn) (first cap : Array Value) (w : World), (Instr.makeFunc fn first cap).run Tryz.prog w = .ok (.func fn first cap) w := fun _ _ _ _ => rfl
 have hmm := @run_makeMap Tryz.prog
 have e0 : Ext w ((((w.alloc (.cells #[.pointer (some ⟨wb, 0, none⟩)] 94)).alloc (.cells #[.int .i64 v.k, .int .i64 v.n, .string v.s] 34)).alloc (.cells #[.int .i64 (d : Int)] 3)).alloc (.cells #[.int .i64 0, .int .i64 0, .string ⟨#[]⟩, .slice none 0 0] 25)) := ((((Ext.refl w).alloc _).alloc _).alloc _).alloc _
 have HE := Lib.hid e0
 have B3 : Hid (Blk ((((w.alloc (.cells #[.pointer (some ⟨wb, 0, none⟩)] 94)).alloc (.cells #[.int .i64 v.k, .int .i64 v.n, .string v.s] 34)).alloc (.cells #[.int .i64 (d : Int)] 3)).alloc (.cells #[.int .i64 0, .int .i64 0, .string ⟨#[]⟩, .slice none 0 0] 25)) w.heap.size 94 #[.pointer (some ⟨wb, 0, none⟩)]) := Lib.hid ((((Blk.new w _ _).alloc _).alloc _).alloc _)
 have B4 : Hid (Blk ((((w.alloc (.cells #[.pointer (some ⟨wb, 0, none⟩)] 94)).alloc (.cells #[.int .i64 v.k, .int .i64 v.n, .string v.s] 34)).alloc (.cells #[.int .i64 (d : Int)] 3)).alloc (.cells #[.int .i64 0, .int .i64 0, .string ⟨#[]⟩, .slice none 0 0] 25)) (w.heap.size + 1) 34 #[.int .i64 v.k, .int .i64 v.n, .string v.s]) := Lib.hid (by
  have := Blk.new (w.alloc (.cells #[.pointer (some ⟨wb, 0, none⟩)] 94)) 34 #[.int .i64 v.k, .int .i64 v.n, .string v.s]
  rw [size_alloc] at this
  exact (this.alloc _).alloc _)
 have B5 : Hid (Blk ((((w.alloc (.cells #[.pointer (some ⟨wb, 0, none⟩)] 94)).alloc (.cells #[.int .i64 v.k, .int .i64 v.n, .string v.s] 34)).alloc (.cells #[.int .i64 (d : Int)] 3)).alloc (.cells #[.int .i64 0, .int .i64 0, .string ⟨#[]⟩, .slice none 0 0] 25)) (w.heap.size + 1 + 1) 3 #[.int .i64 (d : Int)]) := Lib.hid (by
  have := Blk.new ((w.alloc (.cells #[.pointer (some ⟨wb, 0, none⟩)] 94)).alloc (.cells #[.int .i64 v.k, .int .i64 v.n, .string v.s] 34)) 3 #[.int .i64 (d : Int)]
  rw [size_alloc, size_alloc] at this
  exact this.alloc _)
 have B6 : Hid (Blk ((((w.alloc (.cells #[.pointer (some ⟨wb, 0, none⟩)] 94)).alloc (.cells #[.int .i64 v.k, .int .i64 v.n, .string v.s] 34)).alloc (.cells #[.int .i64 (d : Int)] 3)).alloc (.cells #[.int .i64 0, .int .i64 0, .string ⟨#[]⟩, .slice none 0 0] 25)) (w.heap.size + 1 + 1 + 1) 25 #[.int .i64 0, .int .i64 0, .string ⟨#[]⟩, .slice none 0 0]) := Lib.hid (by
  have := Blk.new (((w.alloc (.cells #[.pointer (some ⟨wb, 0, none⟩)] 94)).alloc (.cells #[.int .i64 v.k, .int .i64 v.n, .string v.s] 34)).alloc (.cells #[.int .i64 (d : Int)] 3)) 25 #[.int .i64 0, .int .i64 0, .string ⟨#[]⟩, .slice none 0 0]
  rwa [size_alloc, size_alloc, size_alloc] at this)
 have HWB := Lib.hid hwb
 clear e0 hwb
 have HCK := Lib.hid hck
 have HK := Lib.hid hk
 have HC := Lib.hid hc
 clear hck hk hc
 go_enter Tryz.func49, Tryz.ntmps49
 go_wp2_with fail
 generalize ((((w.alloc (.cells #[.pointer (some ⟨wb, 0, none⟩)] 94)).alloc (.cells #[.int .i64 v.k, .int .i64 v.n, .string v.s] 34)).alloc (.cells #[.int .i64 (d : Int)] 3)).alloc (.cells #[.int .i64 0, .int .i64 0, .string ⟨#[]⟩, .slice none 0 0] 25)) = W at *
 refine (checkV v true HCK.out _).mono ?_
 rintro e w1 ⟨rfl, e1⟩
 have E1 := Lib.hid (HE.out.trans e1)
 have C3 := Lib.hid (B3.out.ext e1)
 have C4 := Lib.hid (B4.out.ext e1)
 have C5 := Lib.hid (B5.out.ext e1)
 have C6 := Lib.hid (B6.out.ext e1)
 clear e1 B3 B4 B5 B6 HE
 go_wp2_with fail
 refine (bmust_yes _ _).mono ?_
 rintro e w2 ⟨rfl, rfl⟩
 have i0 : (Instr.mapUpdate 118 (.map (some w1.heap.size)) (.int .i64 1) (.func (.func 67) #[] #[.pointer (some ⟨(w.heap.size + 1), 0, none⟩)])).run Tryz.prog (w1.alloc (.map #[] 0)) = .ok () (w1.alloc (.map (ents [(.int .i64 1, .func (.func 67) #[] #[.pointer (some ⟨(w.heap.size + 1), 0, none⟩)])] 0).toArray 1)) :=
  run_insert_lit Tryz.underlying118 Tryz.underlying32 rfl [] 0 _ _ rfl rfl w1
 have i1 : (Instr.mapUpdate 118 (.map (some w1.heap.size)) (.int .i64 2) (.func (.func 68) #[] #[.pointer (some ⟨(w.heap.size + 1), 0, none⟩)])).run Tryz.prog (w1.alloc (.map (ents [(.int .i64 1, .func (.func 67) #[] #[.pointer (some ⟨(w.heap.size + 1), 0, none⟩)])] 0).toArray 1)) = .ok () (w1.alloc (.map (ents [(.int .i64 1, .func (.func 67) #[] #[.pointer (some ⟨(w.heap.size + 1), 0, none⟩)]), (.int .i64 2, .func (.func 68) #[] #[.pointer (some ⟨(w.heap.size + 1), 0, none⟩)])] 0).toArray 2)) :=
  run_insert_lit Tryz.underlying118 Tryz.underlying32 rfl [(.int .i64 1, .func (.func 67) #[] #[.pointer (some ⟨(w.heap.size + 1), 0, none⟩)])] 1 _ _ rfl rfl w1
 have i2 : (Instr.mapUpdate 118 (.map (some w1.heap.size)) (.int .i64 3) (.func (.func 69) #[] #[.pointer (some ⟨w.heap.size, 0, none⟩), .pointer (some ⟨(w.heap.size + 1), 0, none⟩)])).run Tryz.prog (w1.alloc (.map (ents [(.int .i64 1, .func (.func 67) #[] #[.pointer (some ⟨(w.heap.size + 1), 0, none⟩)]), (.int .i64 2, .func (.func 68) #[] #[.pointer (some ⟨(w.heap.size + 1), 0, none⟩)])] 0).toArray 2)) = .ok () (w1.alloc (.map (ents [(.int .i64 1, .func (.func 67) #[] #[.pointer (some ⟨(w.heap.size + 1), 0, none⟩)]), (.int .i64 2, .func (.func 68) #[] #[.pointer (some ⟨(w.heap.size + 1), 0, none⟩)]), (.int .i64 3, .func (.func 69) #[] #[.pointer (some ⟨w.heap.size, 0, none⟩), .pointer (some ⟨(w.heap.size + 1), 0, none⟩)])] 0).toArray 3)) :=
  run_insert_lit Tryz.underlying118 Tryz.underlying32 rfl [(.int .i64 1, .func (.func 67) #[] #[.pointer (some ⟨(w.heap.size + 1), 0, none⟩)]), (.int .i64 2, .func (.func 68) #[] #[.pointer (some ⟨(w.heap.size + 1), 0, none⟩)])] 2 _ _ rfl rfl w1
 have i3 : (Instr.mapUpdate 118 (.map (some w1.heap.size)) (.int .i64 4) (.func (.func 71) #[] #[.pointer (some ⟨w.heap.size, 0, none⟩), .pointer (some ⟨(w.heap.size + 1), 0, none⟩), .pointer (some ⟨(w.heap.size + 1 + 1), 0, none⟩)])).run Tryz.prog (w1.alloc (.map (ents [(.int .i64 1, .func (.func 67) #[] #[.pointer (some ⟨(w.heap.size + 1), 0, none⟩)]), (.int .i64 2, .func (.func 68) #[] #[.pointer (some ⟨(w.heap.size + 1), 0, none⟩)]), (.int .i64 3, .func (.func 69) #[] #[.pointer (some ⟨w.heap.size, 0, none⟩), .pointer (some ⟨(w.heap.size + 1), 0, none⟩)])] 0).toArray 3)) = .ok () (w1.alloc (.map (ents [(.int .i64 1, .func (.func 67) #[] #[.pointer (some ⟨(w.heap.size + 1), 0, none⟩)]), (.int .i64 2, .func (.func 68) #[] #[.pointer (some ⟨(w.heap.size + 1), 0, none⟩)]), (.int .i64 3, .func (.func 69) #[] #[.pointer (some ⟨w.heap.size, 0, none⟩), .pointer (some ⟨(w.heap.size + 1), 0, none⟩)]), (.int .i64 4, .func (.func 71) #[] #[.pointer (some ⟨w.heap.size, 0, none⟩), .pointer (some ⟨(w.heap.size + 1), 0, none⟩), .pointer (some ⟨(w.heap.size + 1 + 1), 0, none⟩)])] 0).toArray 4)) :=
  run_insert_lit Tryz.underlying118 Tryz.underlying32 rfl [(.int .i64 1, .func (.func 67) #[] #[.pointer (some ⟨(w.heap.size + 1), 0, none⟩)]), (.int .i64 2, .func (.func 68) #[] #[.pointer (some ⟨(w.heap.size + 1), 0, none⟩)]), (.int .i64 3, .func (.func 69) #[] #[.pointer (some ⟨w.heap.size, 0, none⟩), .pointer (some ⟨(w.heap.size + 1), 0, none⟩)])] 3 _ _ rfl rfl w1
 have E2 := Lib.hid (E1.out.alloc (.map (ents [(.int .i64 1, .func (.func 67) #[] #[.pointer (some ⟨(w.heap.size + 1), 0, none⟩)]), (.int .i64 2, .func (.func 68) #[] #[.pointer (some ⟨(w.heap.size + 1), 0, none⟩)]), (.int .i64 3, .func (.func 69) #[] #[.pointer (some ⟨w.heap.size, 0, none⟩), .pointer (some ⟨(w.heap.size + 1), 0, none⟩)]), (.int .i64 4, .func (.func 71) #[] #[.pointer (some ⟨w.heap.size, 0, none⟩), .pointer (some ⟨(w.heap.size + 1), 0, none⟩), .pointer (some ⟨(w.heap.size + 1 + 1), 0, none⟩)])] 0).toArray 4))
 have e2 := (Ext.refl w1).alloc (.map (ents [(.int .i64 1, .func (.func 67) #[] #[.pointer (some ⟨(w.heap.size + 1), 0, none⟩)]), (.int .i64 2, .func (.func 68) #[] #[.pointer (some ⟨(w.heap.size + 1), 0, none⟩)]), (.int .i64 3, .func (.func 69) #[] #[.pointer (some ⟨w.heap.size, 0, none⟩), .pointer (some ⟨(w.heap.size + 1), 0, none⟩)]), (.int .i64 4, .func (.func 71) #[] #[.pointer (some ⟨w.heap.size, 0, none⟩), .pointer (some ⟨(w.heap.size + 1), 0, none⟩), .pointer (some ⟨(w.heap.size + 1 + 1), 0, none⟩)])] 0).toArray 4)
 have D3 := Lib.hid (C3.out.ext e2)
 have D4 := Lib.hid (C4.out.ext e2)
 have D5 := Lib.hid (C5.out.ext e2)
 have D6 := Lib.hid (C6.out.ext e2)
 have x0 := D4.out.cell 0
 simp only [List.getElem?_toArray, List.getElem?_cons_zero, List.getElem?_cons_succ] at x0
 rw [HK.out] at x0
 have lk := run_lookup_lit Tryz.underlying118 Tryz.underlying32 rfl [(.int .i64 1, .func (.func 67) #[] #[.pointer (some ⟨(w.heap.size + 1), 0, none⟩)]), (.int .i64 2, .func (.func 68) #[] #[.pointer (some ⟨(w.heap.size + 1), 0, none⟩)]), (.int .i64 3, .func (.func 69) #[] #[.pointer (some ⟨w.heap.size, 0, none⟩), .pointer (some ⟨(w.heap.size + 1), 0, none⟩)]), (.int .i64 4, .func (.func 71) #[] #[.pointer (some ⟨w.heap.size, 0, none⟩), .pointer (some ⟨(w.heap.size + 1), 0, none⟩), .pointer (some ⟨(w.heap.size + 1 + 1), 0, none⟩)])] 4 w1.heap.size (.int .i64 1) (.func (.func 67) #[] #[.pointer (some ⟨(w.heap.size + 1), 0, none⟩)]) (heap_alloc_new w1 (.map (ents [(.int .i64 1, .func (.func 67) #[] #[.pointer (some ⟨(w.heap.size + 1), 0, none⟩)]), (.int .i64 2, .func (.func 68) #[] #[.pointer (some ⟨(w.heap.size + 1), 0, none⟩)]), (.int .i64 3, .func (.func 69) #[] #[.pointer (some ⟨w.heap.size, 0, none⟩), .pointer (some ⟨(w.heap.size + 1), 0, none⟩)]), (.int .i64 4, .func (.func 71) #[] #[.pointer (some ⟨w.heap.size, 0, none⟩), .pointer (some ⟨(w.heap.size + 1), 0, none⟩), .pointer (some ⟨(w.heap.size + 1 + 1), 0, none⟩)])] 0).toArray 4)) (by rfl) true
 simp only [if_true] at lk
 clear e2 C3 C4 C5 C6 E1
 go_wp2_with fail
 refine (HC.out _ E2.out D3.out D4.out D5.out).mono ?_
 intro e w3 hB
 have HB := Lib.hid hB
 have R1 : Hid (Blk w3 (w.heap.size + 1 + 1 + 1) 25 #[.int .i64 0, .int .i64 0, .string ⟨#[]⟩, .slice none 0 0]) := Lib.hid ((hB.1.block (w.heap.size + 1 + 1 + 1) D6.out.lt (Only.ne_some (by have := HWB.out; omega))).trans D6.out)
 have HL := Lib.hid D6.out.lt
 rcases hB.ways with ⟨k, n, s, q, m, c, he⟩ | ⟨c, he⟩
 ·subst he
  obtain ⟨z0, z1, z2, z3, y0, y1, y2, y3⟩ := four R1.out
  have hlt := R1.out.lt
  clear hB x0 lk
  go_wp2_with fail
  exact bodyPost_ret (v := .agg #[.int .i64 k, .int .i64 n, .string s, .slice q m c]) (by simp [results, Tryz.results49, go_sem, *]) rfl (HB.out.put E2.out (by omega) HL.out HWB.out _ _ _ _)
 ·subst he
  clear hB x0 lk
  go_wp2_with fail
  exact ⟨rfl, HB.out.pre E2.out⟩
set_option maxRecDepth 100000 in
set_option maxHeartbeats 2000000 in
theorem rep_2 (w : World) (wb g D d : Nat) (v : Vl) (r : RepX) (hwb : wb < w.heap.size) (hck : v.ck = true) (hk : v.k = 2)
  (hc : ∀ W, Ext w W → Blk W w.heap.size 94 #[.pointer (some ⟨wb, 0, none⟩)] → Blk W (w.heap.size + 1) 34 #[.int .i64 v.k, .int .i64 v.n, .string v.s] → Blk W (w.heap.size + 1 + 1) 3 #[.int .i64 (d : Int)] → Calls Tryz.prog 68 #[.pointer (some ⟨(w.heap.size + 1), 0, none⟩)] W (BepE W wb g D r)) :
  Calls Tryz.prog 49 #[.pointer (some ⟨wb, 0, none⟩), v.v, .int .i64 (d : Int)] w (BepE w wb g D r) := by
 have hmf : ∀ (fn : Fn) (first cap : Array Value) (w : World), (Instr.makeFunc fn first cap).run Tryz.prog w = .ok (.func fn first cap) w := fun _ _ _ _ => rfl
 have hmm := @run_makeMap Tryz.prog
 have e0 : Ext w ((((w.alloc (.cells #[.pointer (some ⟨wb, 0, none⟩)] 94)).alloc (.cells #[.int .i64 v.k, .int .i64 v.n, .string v.s] 34)).alloc (.cells #[.int .i64 (d : Int)] 3)).alloc (.cells #[.int .i64 0, .int .i64 0, .string ⟨#[]⟩, .slice none 0 0] 25)) := ((((Ext.refl w).alloc _).alloc _).alloc _).alloc _
 have HE := Lib.hid e0
 have B3 : Hid (Blk ((((w.alloc (.cells #[.pointer (some ⟨wb, 0, none⟩)] 94)).alloc (.cells #[.int .i64 v.k, .int .i64 v.n, .string v.s] 34)).alloc (.cells #[.int .i64 (d : Int)] 3)).alloc (.cells #[.int .i64 0, .int .i64 0, .string ⟨#[]⟩, .slice none 0 0] 25)) w.heap.size 94 #[.pointer (some ⟨wb, 0, none⟩)]) := Lib.hid ((((Blk.new w _ _).alloc _).alloc _).alloc _)
 have B4 : Hid (Blk ((((w.alloc (.cells #[.pointer (some ⟨wb, 0, none⟩)] 94)).alloc (.cells #[.int .i64 v.k, .int .i64 v.n, .string v.s] 34)).alloc (.cells #[.int .i64 (d : Int)] 3)).alloc (.cells #[.int .i64 0, .int .i64 0, .string ⟨#[]⟩, .slice none 0 0] 25)) (w.heap.size + 1) 34 #[.int .i64 v.k, .int .i64 v.n, .string v.s]) := Lib.hid (by
  have := Blk.new (w.alloc (.cells #[.pointer (some ⟨wb, 0, none⟩)] 94)) 34 #[.int .i64 v.k, .int .i64 v.n, .string v.s]
  rw [size_alloc] at this
  exact (this.alloc _).alloc _)
 have B5 : Hid (Blk ((((w.alloc (.cells #[.pointer (some ⟨wb, 0, none⟩)] 94)).alloc (.cells #[.int .i64 v.k, .int .i64 v.n, .string v.s] 34)).alloc (.cells #[.int .i64 (d : Int)] 3)).alloc (.cells #[.int .i64 0, .int .i64 0, .string ⟨#[]⟩, .slice none 0 0] 25)) (w.heap.size + 1 + 1) 3 #[.int .i64 (d : Int)]) := Lib.hid (by
  have := Blk.new ((w.alloc (.cells #[.pointer (some ⟨wb, 0, none⟩)] 94)).alloc (.cells #[.int .i64 v.k, .int .i64 v.n, .string v.s] 34)) 3 #[.int .i64 (d : Int)]
  rw [size_alloc, size_alloc] at this
  exact this.alloc _)
 have B6 : Hid (Blk ((((w.alloc (.cells #[.pointer (some ⟨wb, 0, none⟩)] 94)).alloc (.cells #[.int .i64 v.k, .int .i64 v.n, .string v.s] 34)).alloc (.cells #[.int .i64 (d : Int)] 3)).alloc (.cells #[.int .i64 0, .int .i64 0, .string ⟨#[]⟩, .slice none 0 0] 25)) (w.heap.size + 1 + 1 + 1) 25 #[.int .i64 0, .int .i64 0, .string ⟨#[]⟩, .slice none 0 0]) := Lib.hid (by
  have := Blk.new (((w.alloc (.cells #[.pointer (some ⟨wb, 0, none⟩)] 94)).alloc (.cells #[.int .i64 v.k, .int .i64 v.n, .string v.s] 34)).alloc (.cells #[.int .i64 (d : Int)] 3)) 25 #[.int .i64 0, .int .i64 0, .string ⟨#[]⟩, .slice none 0 0]
  rwa [size_alloc, size_alloc, size_alloc] at this)
 have HWB := Lib.hid hwb
 clear e0 hwb
 have HCK := Lib.hid hck
 have HK := Lib.hid hk
 have HC := Lib.hid hc
 clear hck hk hc
 go_enter Tryz.func49, Tryz.ntmps49
 go_wp2_with fail
 generalize ((((w.alloc (.cells #[.pointer (some ⟨wb, 0, none⟩)] 94)).alloc (.cells #[.int .i64 v.k, .int .i64 v.n, .string v.s] 34)).alloc (.cells #[.int .i64 (d : Int)] 3)).alloc (.cells #[.int .i64 0, .int .i64 0, .string ⟨#[]⟩, .slice none 0 0] 25)) = W at *
 refine (checkV v true HCK.out _).mono ?_
 rintro e w1 ⟨rfl, e1⟩
 have E1 := Lib.hid (HE.out.trans e1)
 have C3 := Lib.hid (B3.out.ext e1)
 have C4 := Lib.hid (B4.out.ext e1)
 have C5 := Lib.hid (B5.out.ext e1)
 have C6 := Lib.hid (B6.out.ext e1)
 clear e1 B3 B4 B5 B6 HE
 go_wp2_with fail
 refine (bmust_yes _ _).mono ?_
 rintro e w2 ⟨rfl, rfl⟩
 have i0 : (Instr.mapUpdate 118 (.map (some w1.heap.size)) (.int .i64 1) (.func (.func 67) #[] #[.pointer (some ⟨(w.heap.size + 1), 0, none⟩)])).run Tryz.prog (w1.alloc (.map #[] 0)) = .ok () (w1.alloc (.map (ents [(.int .i64 1, .func (.func 67) #[] #[.pointer (some ⟨(w.heap.size + 1), 0, none⟩)])] 0).toArray 1)) :=
  run_insert_lit Tryz.underlying118 Tryz.underlying32 rfl [] 0 _ _ rfl rfl w1
 have i1 : (Instr.mapUpdate 118 (.map (some w1.heap.size)) (.int .i64 2) (.func (.func 68) #[] #[.pointer (some ⟨(w.heap.size + 1), 0, none⟩)])).run Tryz.prog (w1.alloc (.map (ents [(.int .i64 1, .func (.func 67) #[] #[.pointer (some ⟨(w.heap.size + 1), 0, none⟩)])] 0).toArray 1)) = .ok () (w1.alloc (.map (ents [(.int .i64 1, .func (.func 67) #[] #[.pointer (some ⟨(w.heap.size + 1), 0, none⟩)]), (.int .i64 2, .func (.func 68) #[] #[.pointer (some ⟨(w.heap.size + 1), 0, none⟩)])] 0).toArray 2)) :=
  run_insert_lit Tryz.underlying118 Tryz.underlying32 rfl [(.int .i64 1, .func (.func 67) #[] #[.pointer (some ⟨(w.heap.size + 1), 0, none⟩)])] 1 _ _ rfl rfl w1
 have i2 : (Instr.mapUpdate 118 (.map (some w1.heap.size)) (.int .i64 3) (.func (.func 69) #[] #[.pointer (some ⟨w.heap.size, 0, none⟩), .pointer (some ⟨(w.heap.size + 1), 0, none⟩)])).run Tryz.prog (w1.alloc (.map (ents [(.int .i64 1, .func (.func 67) #[] #[.pointer (some ⟨(w.heap.size + 1), 0, none⟩)]), (.int .i64 2, .func (.func 68) #[] #[.pointer (some ⟨(w.heap.size + 1), 0, none⟩)])] 0).toArray 2)) = .ok () (w1.alloc (.map (ents [(.int .i64 1, .func (.func 67) #[] #[.pointer (some ⟨(w.heap.size + 1), 0, none⟩)]), (.int .i64 2, .func (.func 68) #[] #[.pointer (some ⟨(w.heap.size + 1), 0, none⟩)]), (.int .i64 3, .func (.func 69) #[] #[.pointer (some ⟨w.heap.size, 0, none⟩), .pointer (some ⟨(w.heap.size + 1), 0, none⟩)])] 0).toArray 3)) :=
  run_insert_lit Tryz.underlying118 Tryz.underlying32 rfl [(.int .i64 1, .func (.func 67) #[] #[.pointer (some ⟨(w.heap.size + 1), 0, none⟩)]), (.int .i64 2, .func (.func 68) #[] #[.pointer (some ⟨(w.heap.size + 1), 0, none⟩)])] 2 _ _ rfl rfl w1
 have i3 : (Instr.mapUpdate 118 (.map (some w1.heap.size)) (.int .i64 4) (.func (.func 71) #[] #[.pointer (some ⟨w.heap.size, 0, none⟩), .pointer (some ⟨(w.heap.size + 1), 0, none⟩), .pointer (some ⟨(w.heap.size + 1 + 1), 0, none⟩)])).run Tryz.prog (w1.alloc (.map (ents [(.int .i64 1, .func (.func 67) #[] #[.pointer (some ⟨(w.heap.size + 1), 0, none⟩)]), (.int .i64 2, .func (.func 68) #[] #[.pointer (some ⟨(w.heap.size + 1), 0, none⟩)]), (.int .i64 3, .func (.func 69) #[] #[.pointer (some ⟨w.heap.size, 0, none⟩), .pointer (some ⟨(w.heap.size + 1), 0, none⟩)])] 0).toArray 3)) = .ok () (w1.alloc (.map (ents [(.int .i64 1, .func (.func 67) #[] #[.pointer (some ⟨(w.heap.size + 1), 0, none⟩)]), (.int .i64 2, .func (.func 68) #[] #[.pointer (some ⟨(w.heap.size + 1), 0, none⟩)]), (.int .i64 3, .func (.func 69) #[] #[.pointer (some ⟨w.heap.size, 0, none⟩), .pointer (some ⟨(w.heap.size + 1), 0, none⟩)]), (.int .i64 4, .func (.func 71) #[] #[.pointer (some ⟨w.heap.size, 0, none⟩), .pointer (some ⟨(w.heap.size + 1), 0, none⟩), .pointer (some ⟨(w.heap.size + 1 + 1), 0, none⟩)])] 0).toArray 4)) :=
  run_insert_lit Tryz.underlying118 Tryz.underlying32 rfl [(.int .i64 1, .func (.func 67) #[] #[.pointer (some ⟨(w.heap.size + 1), 0, none⟩)]), (.int .i64 2, .func (.func 68) #[] #[.pointer (some ⟨(w.heap.size + 1), 0, none⟩)]), (.int .i64 3, .func (.func 69) #[] #[.pointer (some ⟨w.heap.size, 0, none⟩), .pointer (some ⟨(w.heap.size + 1), 0, none⟩)])] 3 _ _ rfl rfl w1
 have E2 := Lib.hid (E1.out.alloc (.map (ents [(.int .i64 1, .func (.func 67) #[] #[.pointer (some ⟨(w.heap.size + 1), 0, none⟩)]), (.int .i64 2, .func (.func 68) #[] #[.pointer (some ⟨(w.heap.size + 1), 0, none⟩)]), (.int .i64 3, .func (.func 69) #[] #[.pointer (some ⟨w.heap.size, 0, none⟩), .pointer (some ⟨(w.heap.size + 1), 0, none⟩)]), (.int .i64 4, .func (.func 71) #[] #[.pointer (some ⟨w.heap.size, 0, none⟩), .pointer (some ⟨(w.heap.size + 1), 0, none⟩), .pointer (some ⟨(w.heap.size + 1 + 1), 0, none⟩)])] 0).toArray 4))
 have e2 := (Ext.refl w1).alloc (.map (ents [(.int .i64 1, .func (.func 67) #[] #[.pointer (some ⟨(w.heap.size + 1), 0, none⟩)]), (.int .i64 2, .func (.func 68) #[] #[.pointer (some ⟨(w.heap.size + 1), 0, none⟩)]), (.int .i64 3, .func (.func 69) #[] #[.pointer (some ⟨w.heap.size, 0, none⟩), .pointer (some ⟨(w.heap.size + 1), 0, none⟩)]), (.int .i64 4, .func (.func 71) #[] #[.pointer (some ⟨w.heap.size, 0, none⟩), .pointer (some ⟨(w.heap.size + 1), 0, none⟩), .pointer (some ⟨(w.heap.size + 1 + 1), 0, none⟩)])] 0).toArray 4)
 have D3 := Lib.hid (C3.out.ext e2)
 have D4 := Lib.hid (C4.out.ext e2)
 have D5 := Lib.hid (C5.out.ext e2)
 have D6 := Lib.hid (C6.out.ext e2)
 have x0 := D4.out.cell 0
 simp only [List.getElem?_toArray, List.getElem?_cons_zero, List.getElem?_cons_succ] at x0
 rw [HK.out] at x0
 have lk := run_lookup_lit Tryz.underlying118 Tryz.underlying32 rfl [(.int .i64 1, .func (.func 67) #[] #[.pointer (some ⟨(w.heap.size + 1), 0, none⟩)]), (.int .i64 2, .func (.func 68) #[] #[.pointer (some ⟨(w.heap.size + 1), 0, none⟩)]), (.int .i64 3, .func (.func 69) #[] #[.pointer (some ⟨w.heap.size, 0, none⟩), .pointer (some ⟨(w.heap.size + 1), 0, none⟩)]), (.int .i64 4, .func (.func 71) #[] #[.pointer (some ⟨w.heap.size, 0, none⟩), .pointer (some ⟨(w.heap.size + 1), 0, none⟩), .pointer (some ⟨(w.heap.size + 1 + 1), 0, none⟩)])] 4 w1.heap.size (.int .i64 2) (.func (.func 68) #[] #[.pointer (some ⟨(w.heap.size + 1), 0, none⟩)]) (heap_alloc_new w1 (.map (ents [(.int .i64 1, .func (.func 67) #[] #[.pointer (some ⟨(w.heap.size + 1), 0, none⟩)]), (.int .i64 2, .func (.func 68) #[] #[.pointer (some ⟨(w.heap.size + 1), 0, none⟩)]), (.int .i64 3, .func (.func 69) #[] #[.pointer (some ⟨w.heap.size, 0, none⟩), .pointer (some ⟨(w.heap.size + 1), 0, none⟩)]), (.int .i64 4, .func (.func 71) #[] #[.pointer (some ⟨w.heap.size, 0, none⟩), .pointer (some ⟨(w.heap.size + 1), 0, none⟩), .pointer (some ⟨(w.heap.size + 1 + 1), 0, none⟩)])] 0).toArray 4)) (by rfl) true
 simp only [if_true] at lk
 clear e2 C3 C4 C5 C6 E1
 go_wp2_with fail
 refine (HC.out _ E2.out D3.out D4.out D5.out).mono ?_
 intro e w3 hB
 have HB := Lib.hid hB
 have R1 : Hid (Blk w3 (w.heap.size + 1 + 1 + 1) 25 #[.int .i64 0, .int .i64 0, .string ⟨#[]⟩, .slice none 0 0]) := Lib.hid ((hB.1.block (w.heap.size + 1 + 1 + 1) D6.out.lt (Only.ne_some (by have := HWB.out; omega))).trans D6.out)
 have HL := Lib.hid D6.out.lt
 rcases hB.ways with ⟨k, n, s, q, m, c, he⟩ | ⟨c, he⟩
 ·subst he
  obtain ⟨z0, z1, z2, z3, y0, y1, y2, y3⟩ := four R1.out
  have hlt := R1.out.lt
  clear hB x0 lk
  go_wp2_with fail
  exact bodyPost_ret (v := .agg #[.int .i64 k, .int .i64 n, .string s, .slice q m c]) (by simp [results, Tryz.results49, go_sem, *]) rfl (HB.out.put E2.out (by omega) HL.out HWB.out _ _ _ _)
 ·subst he
  clear hB x0 lk
  go_wp2_with fail
  exact ⟨rfl, HB.out.pre E2.out⟩
set_option maxRecDepth 100000 in
set_option maxHeartbeats 2000000 in
theorem rep_3 (w : World) (wb g D d : Nat) (v : Vl) (r : RepX) (hwb : wb < w.heap.size) (hck : v.ck = true) (hk : v.k = 3)
  (hc : ∀ W, Ext w W → Blk W w.heap.size 94 #[.pointer (some ⟨wb, 0, none⟩)] → Blk W (w.heap.size + 1) 34 #[.int .i64 v.k, .int .i64 v.n, .string v.s] → Blk W (w.heap.size + 1 + 1) 3 #[.int .i64 (d : Int)] → Calls Tryz.prog 69 #[.pointer (some ⟨w.heap.size, 0, none⟩), .pointer (some ⟨(w.heap.size + 1), 0, none⟩)] W (BepE W wb g D r)) :
  Calls Tryz.prog 49 #[.pointer (some ⟨wb, 0, none⟩), v.v, .int .i64 (d : Int)] w (BepE w wb g D r) := by
 have hmf : ∀ (fn : Fn) (first cap : Array Value) (w : World), (Instr.makeFunc fn first cap).run Tryz.prog w = .ok (.func fn first cap) w := fun _ _ _ _ => rfl
 have hmm := @run_makeMap Tryz.prog
 have e0 : Ext w ((((w.alloc (.cells #[.pointer (some ⟨wb, 0, none⟩)] 94)).alloc (.cells #[.int .i64 v.k, .int .i64 v.n, .string v.s] 34)).alloc (.cells #[.int .i64 (d : Int)] 3)).alloc (.cells #[.int .i64 0, .int .i64 0, .string ⟨#[]⟩, .slice none 0 0] 25)) := ((((Ext.refl w).alloc _).alloc _).alloc _).alloc _
 have HE := Lib.hid e0
 have B3 : Hid (Blk ((((w.alloc (.cells #[.pointer (some ⟨wb, 0, none⟩)] 94)).alloc (.cells #[.int .i64 v.k, .int .i64 v.n, .string v.s] 34)).alloc (.cells #[.int .i64 (d : Int)] 3)).alloc (.cells #[.int .i64 0, .int .i64 0, .string ⟨#[]⟩, .slice none 0 0] 25)) w.heap.size 94 #[.pointer (some ⟨wb, 0, none⟩)]) := Lib.hid ((((Blk.new w _ _).alloc _).alloc _).alloc _)
 have B4 : Hid (Blk ((((w.alloc (.cells #[.pointer (some ⟨wb, 0, none⟩)] 94)).alloc (.cells #[.int .i64 v.k, .int .i64 v.n, .string v.s] 34)).alloc (.cells #[.int .i64 (d : Int)] 3)).alloc (.cells #[.int .i64 0, .int .i64 0, .string ⟨#[]⟩, .slice none 0 0] 25)) (w.heap.size + 1) 34 #[.int .i64 v.k, .int .i64 v.n, .string v.s]) := Lib.hid (by
  have := Blk.new (w.alloc (.cells #[.pointer (some ⟨wb, 0, none⟩)] 94)) 34 #[.int .i64 v.k, .int .i64 v.n, .string v.s]
  rw [size_alloc] at this
  exact (this.alloc _).alloc _)
 have B5 : Hid (Blk ((((w.alloc (.cells #[.pointer (some ⟨wb, 0, none⟩)] 94)).alloc (.cells #[.int .i64 v.k, .int .i64 v.n, .string v.s] 34)).alloc (.cells #[.int .i64 (d : Int)] 3)).alloc (.cells #[.int .i64 0, .int .i64 0, .string ⟨#[]⟩, .slice none 0 0] 25)) (w.heap.size + 1 + 1) 3 #[.int .i64 (d : Int)]) := Lib.hid (by
  have := Blk.new ((w.alloc (.cells #[.pointer (some ⟨wb, 0, none⟩)] 94)).alloc (.cells #[.int .i64 v.k, .int .i64 v.n, .string v.s] 34)) 3 #[.int .i64 (d : Int)]
  rw [size_alloc, size_alloc] at this
  exact this.alloc _)
 have B6 : Hid (Blk ((((w.alloc (.cells #[.pointer (some ⟨wb, 0, none⟩)] 94)).alloc (.cells #[.int .i64 v.k, .int .i64 v.n, .string v.s] 34)).alloc (.cells #[.int .i64 (d : Int)] 3)).alloc (.cells #[.int .i64 0, .int .i64 0, .string ⟨#[]⟩, .slice none 0 0] 25)) (w.heap.size + 1 + 1 + 1) 25 #[.int .i64 0, .int .i64 0, .string ⟨#[]⟩, .slice none 0 0]) := Lib.hid (by
  have := Blk.new (((w.alloc (.cells #[.pointer (some ⟨wb, 0, none⟩)] 94)).alloc (.cells #[.int .i64 v.k, .int .i64 v.n, .string v.s] 34)).alloc (.cells #[.int .i64 (d : Int)] 3)) 25 #[.int .i64 0, .int .i64 0, .string ⟨#[]⟩, .slice none 0 0]
  rwa [size_alloc, size_alloc, size_alloc] at this)
 have HWB := Lib.hid hwb
 clear e0 hwb
 have HCK := Lib.hid hck
 have HK := Lib.hid hk
 have HC := Lib.hid hc
 clear hck hk hc
 go_enter Tryz.func49, Tryz.ntmps49
 go_wp2_with fail
 generalize ((((w.alloc (.cells #[.pointer (some ⟨wb, 0, none⟩)] 94)).alloc (.cells #[.int .i64 v.k, .int .i64 v.n, .string v.s] 34)).alloc (.cells #[.int .i64 (d : Int)] 3)).alloc (.cells #[.int .i64 0, .int .i64 0, .string ⟨#[]⟩, .slice none 0 0] 25)) = W at *
 refine (checkV v true HCK.out _).mono ?_
 rintro e w1 ⟨rfl, e1⟩
 have E1 := Lib.hid (HE.out.trans e1)
 have C3 := Lib.hid (B3.out.ext e1)
 have C4 := Lib.hid (B4.out.ext e1)
 have C5 := Lib.hid (B5.out.ext e1)
 have C6 := Lib.hid (B6.out.ext e1)
 clear e1 B3 B4 B5 B6 HE
 go_wp2_with fail
 refine (bmust_yes _ _).mono ?_
 rintro e w2 ⟨rfl, rfl⟩
 have i0 : (Instr.mapUpdate 118 (.map (some w1.heap.size)) (.int .i64 1) (.func (.func 67) #[] #[.pointer (some ⟨(w.heap.size + 1), 0, none⟩)])).run Tryz.prog (w1.alloc (.map #[] 0)) = .ok () (w1.alloc (.map (ents [(.int .i64 1, .func (.func 67) #[] #[.pointer (some ⟨(w.heap.size + 1), 0, none⟩)])] 0).toArray 1)) :=
  run_insert_lit Tryz.underlying118 Tryz.underlying32 rfl [] 0 _ _ rfl rfl w1
 have i1 : (Instr.mapUpdate 118 (.map (some w1.heap.size)) (.int .i64 2) (.func (.func 68) #[] #[.pointer (some ⟨(w.heap.size + 1), 0, none⟩)])).run Tryz.prog (w1.alloc (.map (ents [(.int .i64 1, .func (.func 67) #[] #[.pointer (some ⟨(w.heap.size + 1), 0, none⟩)])] 0).toArray 1)) = .ok () (w1.alloc (.map (ents [(.int .i64 1, .func (.func 67) #[] #[.pointer (some ⟨(w.heap.size + 1), 0, none⟩)]), (.int .i64 2, .func (.func 68) #[] #[.pointer (some ⟨(w.heap.size + 1), 0, none⟩)])] 0).toArray 2)) :=
  run_insert_lit Tryz.underlying118 Tryz.underlying32 rfl [(.int .i64 1, .func (.func 67) #[] #[.pointer (some ⟨(w.heap.size + 1), 0, none⟩)])] 1 _ _ rfl rfl w1
 have i2 : (Instr.mapUpdate 118 (.map (some w1.heap.size)) (.int .i64 3) (.func (.func 69) #[] #[.pointer (some ⟨w.heap.size, 0, none⟩), .pointer (some ⟨(w.heap.size + 1), 0, none⟩)])).run Tryz.prog (w1.alloc (.map (ents [(.int .i64 1, .func (.func 67) #[] #[.pointer (some ⟨(w.heap.size + 1), 0, none⟩)]), (.int .i64 2, .func (.func 68) #[] #[.pointer (some ⟨(w.heap.size + 1), 0, none⟩)])] 0).toArray 2)) = .ok () (w1.alloc (.map (ents [(.int .i64 1, .func (.func 67) #[] #[.pointer (some ⟨(w.heap.size + 1), 0, none⟩)]), (.int .i64 2, .func (.func 68) #[] #[.pointer (some ⟨(w.heap.size + 1), 0, none⟩)]), (.int .i64 3, .func (.func 69) #[] #[.pointer (some ⟨w.heap.size, 0, none⟩), .pointer (some ⟨(w.heap.size + 1), 0, none⟩)])] 0).toArray 3)) :=
  run_insert_lit Tryz.underlying118 Tryz.underlying32 rfl [(.int .i64 1, .func (.func 67) #[] #[.pointer (some ⟨(w.heap.size + 1), 0, none⟩)]), (.int .i64 2, .func (.func 68) #[] #[.pointer (some ⟨(w.heap.size + 1), 0, none⟩)])] 2 _ _ rfl rfl w1
 have i3 : (Instr.mapUpdate 118 (.map (some w1.heap.size)) (.int .i64 4) (.func (.func 71) #[] #[.pointer (some ⟨w.heap.size, 0, none⟩), .pointer (some ⟨(w.heap.size + 1), 0, none⟩), .pointer (some ⟨(w.heap.size + 1 + 1), 0, none⟩)])).run Tryz.prog (w1.alloc (.map (ents [(.int .i64 1, .func (.func 67) #[] #[.pointer (some ⟨(w.heap.size + 1), 0, none⟩)]), (.int .i64 2, .func (.func 68) #[] #[.pointer (some ⟨(w.heap.size + 1), 0, none⟩)]), (.int .i64 3, .func (.func 69) #[] #[.pointer (some ⟨w.heap.size, 0, none⟩), .pointer (some ⟨(w.heap.size + 1), 0, none⟩)])] 0).toArray 3)) = .ok () (w1.alloc (.map (ents [(.int .i64 1, .func (.func 67) #[] #[.pointer (some ⟨(w.heap.size + 1), 0, none⟩)]), (.int .i64 2, .func (.func 68) #[] #[.pointer (some ⟨(w.heap.size + 1), 0, none⟩)]), (.int .i64 3, .func (.func 69) #[] #[.pointer (some ⟨w.heap.size, 0, none⟩), .pointer (some ⟨(w.heap.size + 1), 0, none⟩)]), (.int .i64 4, .func (.func 71) #[] #[.pointer (some ⟨w.heap.size, 0, none⟩), .pointer (some ⟨(w.heap.size + 1), 0, none⟩), .pointer (some ⟨(w.heap.size + 1 + 1), 0, none⟩)])] 0).toArray 4)) :=
  run_insert_lit Tryz.underlying118 Tryz.underlying32 rfl [(.int .i64 1, .func (.func 67) #[] #[.pointer (some ⟨(w.heap.size + 1), 0, none⟩)]), (.int .i64 2, .func (.func 68) #[] #[.pointer (some ⟨(w.heap.size + 1), 0, none⟩)]), (.int .i64 3, .func (.func 69) #[] #[.pointer (some ⟨w.heap.size, 0, none⟩), .pointer (some ⟨(w.heap.size + 1), 0, none⟩)])] 3 _ _ rfl rfl w1
 have E2 := Lib.hid (E1.out.alloc (.map (ents [(.int .i64 1, .func (.func 67) #[] #[.pointer (some ⟨(w.heap.size + 1), 0, none⟩)]), (.int .i64 2, .func (.func 68) #[] #[.pointer (some ⟨(w.heap.size + 1), 0, none⟩)]), (.int .i64 3, .func (.func 69) #[] #[.pointer (some ⟨w.heap.size, 0, none⟩), .pointer (some ⟨(w.heap.size + 1), 0, none⟩)]), (.int .i64 4, .func (.func 71) #[] #[.pointer (some ⟨w.heap.size, 0, none⟩), .pointer (some ⟨(w.heap.size + 1), 0, none⟩), .pointer (some ⟨(w.heap.size + 1 + 1), 0, none⟩)])] 0).toArray 4))
 have e2 := (Ext.refl w1).alloc (.map (ents [(.int .i64 1, .func (.func 67) #[] #[.pointer (some ⟨(w.heap.size + 1), 0, none⟩)]), (.int .i64 2, .func (.func 68) #[] #[.pointer (some ⟨(w.heap.size + 1), 0, none⟩)]), (.int .i64 3, .func (.func 69) #[] #[.pointer (some ⟨w.heap.size, 0, none⟩), .pointer (some ⟨(w.heap.size + 1), 0, none⟩)]), (.int .i64 4, .func (.func 71) #[] #[.pointer (some ⟨w.heap.size, 0, none⟩), .pointer (some ⟨(w.heap.size + 1), 0, none⟩), .pointer (some ⟨(w.heap.size + 1 + 1), 0, none⟩)])] 0).toArray 4)
 have D3 := Lib.hid (C3.out.ext e2)
 have D4 := Lib.hid (C4.out.ext e2)
 have D5 := Lib.hid (C5.out.ext e2)
 have D6 := Lib.hid (C6.out.ext e2)
 have x0 := D4.out.cell 0
 simp only [List.getElem?_toArray, List.getElem?_cons_zero, List.getElem?_cons_succ] at x0
 rw [HK.out] at x0
 have lk := run_lookup_lit Tryz.underlying118 Tryz.underlying32 rfl [(.int .i64 1, .func (.func 67) #[] #[.pointer (some ⟨(w.heap.size + 1), 0, none⟩)]), (.int .i64 2, .func (.func 68) #[] #[.pointer (some ⟨(w.heap.size + 1), 0, none⟩)]), (.int .i64 3, .func (.func 69) #[] #[.pointer (some ⟨w.heap.size, 0, none⟩), .pointer (some ⟨(w.heap.size + 1), 0, none⟩)]), (.int .i64 4, .func (.func 71) #[] #[.pointer (some ⟨w.heap.size, 0, none⟩), .pointer (some ⟨(w.heap.size + 1), 0, none⟩), .pointer (some ⟨(w.heap.size + 1 + 1), 0, none⟩)])] 4 w1.heap.size (.int .i64 3) (.func (.func 69) #[] #[.pointer (some ⟨w.heap.size, 0, none⟩), .pointer (some ⟨(w.heap.size + 1), 0, none⟩)]) (heap_alloc_new w1 (.map (ents [(.int .i64 1, .func (.func 67) #[] #[.pointer (some ⟨(w.heap.size + 1), 0, none⟩)]), (.int .i64 2, .func (.func 68) #[] #[.pointer (some ⟨(w.heap.size + 1), 0, none⟩)]), (.int .i64 3, .func (.func 69) #[] #[.pointer (some ⟨w.heap.size, 0, none⟩), .pointer (some ⟨(w.heap.size + 1), 0, none⟩)]), (.int .i64 4, .func (.func 71) #[] #[.pointer (some ⟨w.heap.size, 0, none⟩), .pointer (some ⟨(w.heap.size + 1), 0, none⟩), .pointer (some ⟨(w.heap.size + 1 + 1), 0, none⟩)])] 0).toArray 4)) (by rfl) true
 simp only [if_true] at lk
 clear e2 C3 C4 C5 C6 E1
 go_wp2_with fail
 refine (HC.out _ E2.out D3.out D4.out D5.out).mono ?_
 intro e w3 hB
 have HB := Lib.hid hB
 have R1 : Hid (Blk w3 (w.heap.size + 1 + 1 + 1) 25 #[.int .i64 0, .int .i64 0, .string ⟨#[]⟩, .slice none 0 0]) := Lib.hid ((hB.1.block (w.heap.size + 1 + 1 + 1) D6.out.lt (Only.ne_some (by have := HWB.out; omega))).trans D6.out)
 have HL := Lib.hid D6.out.lt
 rcases hB.ways with ⟨k, n, s, q, m, c, he⟩ | ⟨c, he⟩
 ·subst he
  obtain ⟨z0, z1, z2, z3, y0, y1, y2, y3⟩ := four R1.out
  have hlt := R1.out.lt
  clear hB x0 lk
  go_wp2_with fail
  exact bodyPost_ret (v := .agg #[.int .i64 k, .int .i64 n, .string s, .slice q m c]) (by simp [results, Tryz.results49, go_sem, *]) rfl (HB.out.put E2.out (by omega) HL.out HWB.out _ _ _ _)
 ·subst he
  clear hB x0 lk
  go_wp2_with fail
  exact ⟨rfl, HB.out.pre E2.out⟩
set_option maxRecDepth 100000 in
set_option maxHeartbeats 2000000 in
theorem rep_4 (w : World) (wb g D d : Nat) (v : Vl) (r : RepX) (hwb : wb < w.heap.size) (hck : v.ck = true) (hk : v.k = 4)
  (hc : ∀ W, Ext w W → Blk W w.heap.size 94 #[.pointer (some ⟨wb, 0, none⟩)] → Blk W (w.heap.size + 1) 34 #[.int .i64 v.k, .int .i64 v.n, .string v.s] → Blk W (w.heap.size + 1 + 1) 3 #[.int .i64 (d : Int)] → Calls Tryz.prog 71 #[.pointer (some ⟨w.heap.size, 0, none⟩), .pointer (some ⟨(w.heap.size + 1), 0, none⟩), .pointer (some ⟨(w.heap.size + 1 + 1), 0, none⟩)] W (BepE W wb g D r)) :
  Calls Tryz.prog 49 #[.pointer (some ⟨wb, 0, none⟩), v.v, .int .i64 (d : Int)] w (BepE w wb g D r) := by
 have hmf : ∀ (fn : Fn) (first cap : Array Value) (w : World), (Instr.makeFunc fn first cap).run Tryz.prog w = .ok (.func fn first cap) w := fun _ _ _ _ => rfl
 have hmm := @run_makeMap Tryz.prog
 have e0 : Ext w ((((w.alloc (.cells #[.pointer (some ⟨wb, 0, none⟩)] 94)).alloc (.cells #[.int .i64 v.k, .int .i64 v.n, .string v.s] 34)).alloc (.cells #[.int .i64 (d : Int)] 3)).alloc (.cells #[.int .i64 0, .int .i64 0, .string ⟨#[]⟩, .slice none 0 0] 25)) := ((((Ext.refl w).alloc _).alloc _).alloc _).alloc _
 have HE := Lib.hid e0
 have B3 : Hid (Blk ((((w.alloc (.cells #[.pointer (some ⟨wb, 0, none⟩)] 94)).alloc (.cells #[.int .i64 v.k, .int .i64 v.n, .string v.s] 34)).alloc (.cells #[.int .i64 (d : Int)] 3)).alloc (.cells #[.int .i64 0, .int .i64 0, .string ⟨#[]⟩, .slice none 0 0] 25)) w.heap.size 94 #[.pointer (some ⟨wb, 0, none⟩)]) := Lib.hid ((((Blk.new w _ _).alloc _).alloc _).alloc _)
 have B4 : Hid (Blk ((((w.alloc (.cells #[.pointer (some ⟨wb, 0, none⟩)] 94)).alloc (.cells #[.int .i64 v.k, .int .i64 v.n, .string v.s] 34)).alloc (.cells #[.int .i64 (d : Int)] 3)).alloc (.cells #[.int .i64 0, .int .i64 0, .string ⟨#[]⟩, .slice none 0 0] 25)) (w.heap.size + 1) 34 #[.int .i64 v.k, .int .i64 v.n, .string v.s]) := Lib.hid (by
  have := Blk.new (w.alloc (.cells #[.pointer (some ⟨wb, 0, none⟩)] 94)) 34 #[.int .i64 v.k, .int .i64 v.n, .string v.s]
  rw [size_alloc] at this
  exact (this.alloc _).alloc _)
 have B5 : Hid (Blk ((((w.alloc (.cells #[.pointer (some ⟨wb, 0, none⟩)] 94)).alloc (.cells #[.int .i64 v.k, .int .i64 v.n, .string v.s] 34)).alloc (.cells #[.int .i64 (d : Int)] 3)).alloc (.cells #[.int .i64 0, .int .i64 0, .string ⟨#[]⟩, .slice none 0 0] 25)) (w.heap.size + 1 + 1) 3 #[.int .i64 (d : Int)]) := Lib.hid (by
  have := Blk.new ((w.alloc (.cells #[.pointer (some ⟨wb, 0, none⟩)] 94)).alloc (.cells #[.int .i64 v.k, .int .i64 v.n, .string v.s] 34)) 3 #[.int .i64 (d : Int)]
  rw [size_alloc, size_alloc] at this
  exact this.alloc _)
 have B6 : Hid (Blk ((((w.alloc (.cells #[.pointer (some ⟨wb, 0, none⟩)] 94)).alloc (.cells #[.int .i64 v.k, .int .i64 v.n, .string v.s] 34)).alloc (.cells #[.int .i64 (d : Int)] 3)).alloc (.cells #[.int .i64 0, .int .i64 0, .string ⟨#[]⟩, .slice none 0 0] 25)) (w.heap.size + 1 + 1 + 1) 25 #[.int .i64 0, .int .i64 0, .string ⟨#[]⟩, .slice none 0 0]) := Lib.hid (by
  have := Blk.new (((w.alloc (.cells #[.pointer (some ⟨wb, 0, none⟩)] 94)).alloc (.cells #[.int .i64 v.k, .int .i64 v.n, .string v.s] 34)).alloc (.cells #[.int .i64 (d : Int)] 3)) 25 #[.int .i64 0, .int .i64 0, .string ⟨#[]⟩, .slice none 0 0]
  rwa [size_alloc, size_alloc, size_alloc] at this)
 have HWB := Lib.hid hwb
 clear e0 hwb
 have HCK := Lib.hid hck
 have HK := Lib.hid hk
 have HC := Lib.hid hc
 clear hck hk hc
 go_enter Tryz.func49, Tryz.ntmps49
 go_wp2_with fail
 generalize ((((w.alloc (.cells #[.pointer (some ⟨wb, 0, none⟩)] 94)).alloc (.cells #[.int .i64 v.k, .int .i64 v.n, .string v.s] 34)).alloc (.cells #[.int .i64 (d : Int)] 3)).alloc (.cells #[.int .i64 0, .int .i64 0, .string ⟨#[]⟩, .slice none 0 0] 25)) = W at *
 refine (checkV v true HCK.out _).mono ?_
 rintro e w1 ⟨rfl, e1⟩
 have E1 := Lib.hid (HE.out.trans e1)
 have C3 := Lib.hid (B3.out.ext e1)
 have C4 := Lib.hid (B4.out.ext e1)
 have C5 := Lib.hid (B5.out.ext e1)
 have C6 := Lib.hid (B6.out.ext e1)
 clear e1 B3 B4 B5 B6 HE
 go_wp2_with fail
 refine (bmust_yes _ _).mono ?_
 rintro e w2 ⟨rfl, rfl⟩
 have i0 : (Instr.mapUpdate 118 (.map (some w1.heap.size)) (.int .i64 1) (.func (.func 67) #[] #[.pointer (some ⟨(w.heap.size + 1), 0, none⟩)])).run Tryz.prog (w1.alloc (.map #[] 0)) = .ok () (w1.alloc (.map (ents [(.int .i64 1, .func (.func 67) #[] #[.pointer (some ⟨(w.heap.size + 1), 0, none⟩)])] 0).toArray 1)) :=
  run_insert_lit Tryz.underlying118 Tryz.underlying32 rfl [] 0 _ _ rfl rfl w1
 have i1 : (Instr.mapUpdate 118 (.map (some w1.heap.size)) (.int .i64 2) (.func (.func 68) #[] #[.pointer (some ⟨(w.heap.size + 1), 0, none⟩)])).run Tryz.prog (w1.alloc (.map (ents [(.int .i64 1, .func (.func 67) #[] #[.pointer (some ⟨(w.heap.size + 1), 0, none⟩)])] 0).toArray 1)) = .ok () (w1.alloc (.map (ents [(.int .i64 1, .func (.func 67) #[] #[.pointer (some ⟨(w.heap.size + 1), 0, none⟩)]), (.int .i64 2, .func (.func 68) #[] #[.pointer (some ⟨(w.heap.size + 1), 0, none⟩)])] 0).toArray 2)) :=
  run_insert_lit Tryz.underlying118 Tryz.underlying32 rfl [(.int .i64 1, .func (.func 67) #[] #[.pointer (some ⟨(w.heap.size + 1), 0, none⟩)])] 1 _ _ rfl rfl w1
 have i2 : (Instr.mapUpdate 118 (.map (some w1.heap.size)) (.int .i64 3) (.func (.func 69) #[] #[.pointer (some ⟨w.heap.size, 0, none⟩), .pointer (some ⟨(w.heap.size + 1), 0, none⟩)])).run Tryz.prog (w1.alloc (.map (ents [(.int .i64 1, .func (.func 67) #[] #[.pointer (some ⟨(w.heap.size + 1), 0, none⟩)]), (.int .i64 2, .func (.func 68) #[] #[.pointer (some ⟨(w.heap.size + 1), 0, none⟩)])] 0).toArray 2)) = .ok () (w1.alloc (.map (ents [(.int .i64 1, .func (.func 67) #[] #[.pointer (some ⟨(w.heap.size + 1), 0, none⟩)]), (.int .i64 2, .func (.func 68) #[] #[.pointer (some ⟨(w.heap.size + 1), 0, none⟩)]), (.int .i64 3, .func (.func 69) #[] #[.pointer (some ⟨w.heap.size, 0, none⟩), .pointer (some ⟨(w.heap.size + 1), 0, none⟩)])] 0).toArray 3)) :=
  run_insert_lit Tryz.underlying118 Tryz.underlying32 rfl [(.int .i64 1, .func (.func 67) #[] #[.pointer (some ⟨(w.heap.size + 1), 0, none⟩)]), (.int .i64 2, .func (.func 68) #[] #[.pointer (some ⟨(w.heap.size + 1), 0, none⟩)])] 2 _ _ rfl rfl w1
 have i3 : (Instr.mapUpdate 118 (.map (some w1.heap.size)) (.int .i64 4) (.func (.func 71) #[] #[.pointer (some ⟨w.heap.size, 0, none⟩), .pointer (some ⟨(w.heap.size + 1), 0, none⟩), .pointer (some ⟨(w.heap.size + 1 + 1), 0, none⟩)])).run Tryz.prog (w1.alloc (.map (ents [(.int .i64 1, .func (.func 67) #[] #[.pointer (some ⟨(w.heap.size + 1), 0, none⟩)]), (.int .i64 2, .func (.func 68) #[] #[.pointer (some ⟨(w.heap.size + 1), 0, none⟩)]), (.int .i64 3, .func (.func 69) #[] #[.pointer (some ⟨w.heap.size, 0, none⟩), .pointer (some ⟨(w.heap.size + 1), 0, none⟩)])] 0).toArray 3)) = .ok () (w1.alloc (.map (ents [(.int .i64 1, .func (.func 67) #[] #[.pointer (some ⟨(w.heap.size + 1), 0, none⟩)]), (.int .i64 2, .func (.func 68) #[] #[.pointer (some ⟨(w.heap.size + 1), 0, none⟩)]), (.int .i64 3, .func (.func 69) #[] #[.pointer (some ⟨w.heap.size, 0, none⟩), .pointer (some ⟨(w.heap.size + 1), 0, none⟩)]), (.int .i64 4, .func (.func 71) #[] #[.pointer (some ⟨w.heap.size, 0, none⟩), .pointer (some ⟨(w.heap.size + 1), 0, none⟩), .pointer (some ⟨(w.heap.size + 1 + 1), 0, none⟩)])] 0).toArray 4)) :=
  run_insert_lit Tryz.underlying118 Tryz.underlying32 rfl [(.int .i64 1, .func (.func 67) #[] #[.pointer (some ⟨(w.heap.size + 1), 0, none⟩)]), (.int .i64 2, .func (.func 68) #[] #[.pointer (some ⟨(w.heap.size + 1), 0, none⟩)]), (.int .i64 3, .func (.func 69) #[] #[.pointer (some ⟨w.heap.size, 0, none⟩), .pointer (some ⟨(w.heap.size + 1), 0, none⟩)])] 3 _ _ rfl rfl w1
 have E2 := Lib.hid (E1.out.alloc (.map (ents [(.int .i64 1, .func (.func 67) #[] #[.pointer (some ⟨(w.heap.size + 1), 0, none⟩)]), (.int .i64 2, .func (.func 68) #[] #[.pointer (some ⟨(w.heap.size + 1), 0, none⟩)]), (.int .i64 3, .func (.func 69) #[] #[.pointer (some ⟨w.heap.size, 0, none⟩), .pointer (some ⟨(w.heap.size + 1), 0, none⟩)]), (.int .i64 4, .func (.func 71) #[] #[.pointer (some ⟨w.heap.size, 0, none⟩), .pointer (some ⟨(w.heap.size + 1), 0, none⟩), .pointer (some ⟨(w.heap.size + 1 + 1), 0, none⟩)])] 0).toArray 4))
 have e2 := (Ext.refl w1).alloc (.map (ents [(.int .i64 1, .func (.func 67) #[] #[.pointer (some ⟨(w.heap.size + 1), 0, none⟩)]), (.int .i64 2, .func (.func 68) #[] #[.pointer (some ⟨(w.heap.size + 1), 0, none⟩)]), (.int .i64 3, .func (.func 69) #[] #[.pointer (some ⟨w.heap.size, 0, none⟩), .pointer (some ⟨(w.heap.size + 1), 0, none⟩)]), (.int .i64 4, .func (.func 71) #[] #[.pointer (some ⟨w.heap.size, 0, none⟩), .pointer (some ⟨(w.heap.size + 1), 0, none⟩), .pointer (some ⟨(w.heap.size + 1 + 1), 0, none⟩)])] 0).toArray 4)
 have D3 := Lib.hid (C3.out.ext e2)
 have D4 := Lib.hid (C4.out.ext e2)
 have D5 := Lib.hid (C5.out.ext e2)
 have D6 := Lib.hid (C6.out.ext e2)
 have x0 := D4.out.cell 0
 simp only [List.getElem?_toArray, List.getElem?_cons_zero, List.getElem?_cons_succ] at x0
 rw [HK.out] at x0
 have lk := run_lookup_lit Tryz.underlying118 Tryz.underlying32 rfl [(.int .i64 1, .func (.func 67) #[] #[.pointer (some ⟨(w.heap.size + 1), 0, none⟩)]), (.int .i64 2, .func (.func 68) #[] #[.pointer (some ⟨(w.heap.size + 1), 0, none⟩)]), (.int .i64 3, .func (.func 69) #[] #[.pointer (some ⟨w.heap.size, 0, none⟩), .pointer (some ⟨(w.heap.size + 1), 0, none⟩)]), (.int .i64 4, .func (.func 71) #[] #[.pointer (some ⟨w.heap.size, 0, none⟩), .pointer (some ⟨(w.heap.size + 1), 0, none⟩), .pointer (some ⟨(w.heap.size + 1 + 1), 0, none⟩)])] 4 w1.heap.size (.int .i64 4) (.func (.func 71) #[] #[.pointer (some ⟨w.heap.size, 0, none⟩), .pointer (some ⟨(w.heap.size + 1), 0, none⟩), .pointer (some ⟨(w.heap.size + 1 + 1), 0, none⟩)]) (heap_alloc_new w1 (.map (ents [(.int .i64 1, .func (.func 67) #[] #[.pointer (some ⟨(w.heap.size + 1), 0, none⟩)]), (.int .i64 2, .func (.func 68) #[] #[.pointer (some ⟨(w.heap.size + 1), 0, none⟩)]), (.int .i64 3, .func (.func 69) #[] #[.pointer (some ⟨w.heap.size, 0, none⟩), .pointer (some ⟨(w.heap.size + 1), 0, none⟩)]), (.int .i64 4, .func (.func 71) #[] #[.pointer (some ⟨w.heap.size, 0, none⟩), .pointer (some ⟨(w.heap.size + 1), 0, none⟩), .pointer (some ⟨(w.heap.size + 1 + 1), 0, none⟩)])] 0).toArray 4)) (by rfl) true
 simp only [if_true] at lk
 clear e2 C3 C4 C5 C6 E1
 go_wp2_with fail
 refine (HC.out _ E2.out D3.out D4.out D5.out).mono ?_
 intro e w3 hB
 have HB := Lib.hid hB
 have R1 : Hid (Blk w3 (w.heap.size + 1 + 1 + 1) 25 #[.int .i64 0, .int .i64 0, .string ⟨#[]⟩, .slice none 0 0]) := Lib.hid ((hB.1.block (w.heap.size + 1 + 1 + 1) D6.out.lt (Only.ne_some (by have := HWB.out; omega))).trans D6.out)
 have HL := Lib.hid D6.out.lt
 rcases hB.ways with ⟨k, n, s, q, m, c, he⟩ | ⟨c, he⟩
 ·subst he
  obtain ⟨z0, z1, z2, z3, y0, y1, y2, y3⟩ := four R1.out
  have hlt := R1.out.lt
  clear hB x0 lk
  go_wp2_with fail
  exact bodyPost_ret (v := .agg #[.int .i64 k, .int .i64 n, .string s, .slice q m c]) (by simp [results, Tryz.results49, go_sem, *]) rfl (HB.out.put E2.out (by omega) HL.out HWB.out _ _ _ _)
 ·subst he
  clear hB x0 lk
  go_wp2_with fail
  exact ⟨rfl, HB.out.pre E2.out⟩
set_option maxRecDepth 100000 in
set_option maxHeartbeats 2000000 in
theorem rep_0 (w : World) (wb g D d : Nat) (v : Vl) (r : RepX) (hwb : wb < w.heap.size) (q : Room) (WA : WAt w wb g q) (hck : v.ck = true) (hk : v.k = 0) :
  Calls Tryz.prog 49 #[.pointer (some ⟨wb, 0, none⟩), v.v, .int .i64 (d : Int)] w (BepE w wb g D (.ok (.mk 0 0 sNone [], q))) := by
 have hmf : ∀ (fn : Fn) (first cap : Array Value) (w : World), (Instr.makeFunc fn first cap).run Tryz.prog w = .ok (.func fn first cap) w := fun _ _ _ _ => rfl
 have hmm := @run_makeMap Tryz.prog
 have e0 : Ext w ((((w.alloc (.cells #[.pointer (some ⟨wb, 0, none⟩)] 94)).alloc (.cells #[.int .i64 v.k, .int .i64 v.n, .string v.s] 34)).alloc (.cells #[.int .i64 (d : Int)] 3)).alloc (.cells #[.int .i64 0, .int .i64 0, .string ⟨#[]⟩, .slice none 0 0] 25)) := ((((Ext.refl w).alloc _).alloc _).alloc _).alloc _
 have HE := Lib.hid e0
 have B3 : Hid (Blk ((((w.alloc (.cells #[.pointer (some ⟨wb, 0, none⟩)] 94)).alloc (.cells #[.int .i64 v.k, .int .i64 v.n, .string v.s] 34)).alloc (.cells #[.int .i64 (d : Int)] 3)).alloc (.cells #[.int .i64 0, .int .i64 0, .string ⟨#[]⟩, .slice none 0 0] 25)) w.heap.size 94 #[.pointer (some ⟨wb, 0, none⟩)]) := Lib.hid ((((Blk.new w _ _).alloc _).alloc _).alloc _)
 have B4 : Hid (Blk ((((w.alloc (.cells #[.pointer (some ⟨wb, 0, none⟩)] 94)).alloc (.cells #[.int .i64 v.k, .int .i64 v.n, .string v.s] 34)).alloc (.cells #[.int .i64 (d : Int)] 3)).alloc (.cells #[.int .i64 0, .int .i64 0, .string ⟨#[]⟩, .slice none 0 0] 25)) (w.heap.size + 1) 34 #[.int .i64 v.k, .int .i64 v.n, .string v.s]) := Lib.hid (by
  have := Blk.new (w.alloc (.cells #[.pointer (some ⟨wb, 0, none⟩)] 94)) 34 #[.int .i64 v.k, .int .i64 v.n, .string v.s]
  rw [size_alloc] at this
  exact (this.alloc _).alloc _)
 have B5 : Hid (Blk ((((w.alloc (.cells #[.pointer (some ⟨wb, 0, none⟩)] 94)).alloc (.cells #[.int .i64 v.k, .int .i64 v.n, .string v.s] 34)).alloc (.cells #[.int .i64 (d : Int)] 3)).alloc (.cells #[.int .i64 0, .int .i64 0, .string ⟨#[]⟩, .slice none 0 0] 25)) (w.heap.size + 1 + 1) 3 #[.int .i64 (d : Int)]) := Lib.hid (by
  have := Blk.new ((w.alloc (.cells #[.pointer (some ⟨wb, 0, none⟩)] 94)).alloc (.cells #[.int .i64 v.k, .int .i64 v.n, .string v.s] 34)) 3 #[.int .i64 (d : Int)]
  rw [size_alloc, size_alloc] at this
  exact this.alloc _)
 have B6 : Hid (Blk ((((w.alloc (.cells #[.pointer (some ⟨wb, 0, none⟩)] 94)).alloc (.cells #[.int .i64 v.k, .int .i64 v.n, .string v.s] 34)).alloc (.cells #[.int .i64 (d : Int)] 3)).alloc (.cells #[.int .i64 0, .int .i64 0, .string ⟨#[]⟩, .slice none 0 0] 25)) (w.heap.size + 1 + 1 + 1) 25 #[.int .i64 0, .int .i64 0, .string ⟨#[]⟩, .slice none 0 0]) := Lib.hid (by
  have := Blk.new (((w.alloc (.cells #[.pointer (some ⟨wb, 0, none⟩)] 94)).alloc (.cells #[.int .i64 v.k, .int .i64 v.n, .string v.s] 34)).alloc (.cells #[.int .i64 (d : Int)] 3)) 25 #[.int .i64 0, .int .i64 0, .string ⟨#[]⟩, .slice none 0 0]
  rwa [size_alloc, size_alloc, size_alloc] at this)
 have HWB := Lib.hid hwb
 clear e0 hwb
 have HCK := Lib.hid hck
 have HK := Lib.hid hk
 have HWA := Lib.hid WA
 have hzf : ∀ (w : World), (zeroValue 116).run Tryz.prog w = .ok .nilFunc w := fun w => by kernel_rfl
 clear hck hk WA
 go_enter Tryz.func49, Tryz.ntmps49
 go_wp2_with fail
 generalize ((((w.alloc (.cells #[.pointer (some ⟨wb, 0, none⟩)] 94)).alloc (.cells #[.int .i64 v.k, .int .i64 v.n, .string v.s] 34)).alloc (.cells #[.int .i64 (d : Int)] 3)).alloc (.cells #[.int .i64 0, .int .i64 0, .string ⟨#[]⟩, .slice none 0 0] 25)) = W at *
 refine (checkV v true HCK.out _).mono ?_
 rintro e w1 ⟨rfl, e1⟩
 have E1 := Lib.hid (HE.out.trans e1)
 have C3 := Lib.hid (B3.out.ext e1)
 have C4 := Lib.hid (B4.out.ext e1)
 have C5 := Lib.hid (B5.out.ext e1)
 have C6 := Lib.hid (B6.out.ext e1)
 clear e1 B3 B4 B5 B6 HE
 go_wp2_with fail
 refine (bmust_yes _ _).mono ?_
 rintro e w2 ⟨rfl, rfl⟩
 have i0 : (Instr.mapUpdate 118 (.map (some w1.heap.size)) (.int .i64 1) (.func (.func 67) #[] #[.pointer (some ⟨(w.heap.size + 1), 0, none⟩)])).run Tryz.prog (w1.alloc (.map #[] 0)) = .ok () (w1.alloc (.map (ents [(.int .i64 1, .func (.func 67) #[] #[.pointer (some ⟨(w.heap.size + 1), 0, none⟩)])] 0).toArray 1)) :=
  run_insert_lit Tryz.underlying118 Tryz.underlying32 rfl [] 0 _ _ rfl rfl w1
 have i1 : (Instr.mapUpdate 118 (.map (some w1.heap.size)) (.int .i64 2) (.func (.func 68) #[] #[.pointer (some ⟨(w.heap.size + 1), 0, none⟩)])).run Tryz.prog (w1.alloc (.map (ents [(.int .i64 1, .func (.func 67) #[] #[.pointer (some ⟨(w.heap.size + 1), 0, none⟩)])] 0).toArray 1)) = .ok () (w1.alloc (.map (ents [(.int .i64 1, .func (.func 67) #[] #[.pointer (some ⟨(w.heap.size + 1), 0, none⟩)]), (.int .i64 2, .func (.func 68) #[] #[.pointer (some ⟨(w.heap.size + 1), 0, none⟩)])] 0).toArray 2)) :=
  run_insert_lit Tryz.underlying118 Tryz.underlying32 rfl [(.int .i64 1, .func (.func 67) #[] #[.pointer (some ⟨(w.heap.size + 1), 0, none⟩)])] 1 _ _ rfl rfl w1
 have i2 : (Instr.mapUpdate 118 (.map (some w1.heap.size)) (.int .i64 3) (.func (.func 69) #[] #[.pointer (some ⟨w.heap.size, 0, none⟩), .pointer (some ⟨(w.heap.size + 1), 0, none⟩)])).run Tryz.prog (w1.alloc (.map (ents [(.int .i64 1, .func (.func 67) #[] #[.pointer (some ⟨(w.heap.size + 1), 0, none⟩)]), (.int .i64 2, .func (.func 68) #[] #[.pointer (some ⟨(w.heap.size + 1), 0, none⟩)])] 0).toArray 2)) = .ok () (w1.alloc (.map (ents [(.int .i64 1, .func (.func 67) #[] #[.pointer (some ⟨(w.heap.size + 1), 0, none⟩)]), (.int .i64 2, .func (.func 68) #[] #[.pointer (some ⟨(w.heap.size + 1), 0, none⟩)]), (.int .i64 3, .func (.func 69) #[] #[.pointer (some ⟨w.heap.size, 0, none⟩), .pointer (some ⟨(w.heap.size + 1), 0, none⟩)])] 0).toArray 3)) :=
  run_insert_lit Tryz.underlying118 Tryz.underlying32 rfl [(.int .i64 1, .func (.func 67) #[] #[.pointer (some ⟨(w.heap.size + 1), 0, none⟩)]), (.int .i64 2, .func (.func 68) #[] #[.pointer (some ⟨(w.heap.size + 1), 0, none⟩)])] 2 _ _ rfl rfl w1
 have i3 : (Instr.mapUpdate 118 (.map (some w1.heap.size)) (.int .i64 4) (.func (.func 71) #[] #[.pointer (some ⟨w.heap.size, 0, none⟩), .pointer (some ⟨(w.heap.size + 1), 0, none⟩), .pointer (some ⟨(w.heap.size + 1 + 1), 0, none⟩)])).run Tryz.prog (w1.alloc (.map (ents [(.int .i64 1, .func (.func 67) #[] #[.pointer (some ⟨(w.heap.size + 1), 0, none⟩)]), (.int .i64 2, .func (.func 68) #[] #[.pointer (some ⟨(w.heap.size + 1), 0, none⟩)]), (.int .i64 3, .func (.func 69) #[] #[.pointer (some ⟨w.heap.size, 0, none⟩), .pointer (some ⟨(w.heap.size + 1), 0, none⟩)])] 0).toArray 3)) = .ok () (w1.alloc (.map (ents [(.int .i64 1, .func (.func 67) #[] #[.pointer (some ⟨(w.heap.size + 1), 0, none⟩)]), (.int .i64 2, .func (.func 68) #[] #[.pointer (some ⟨(w.heap.size + 1), 0, none⟩)]), (.int .i64 3, .func (.func 69) #[] #[.pointer (some ⟨w.heap.size, 0, none⟩), .pointer (some ⟨(w.heap.size + 1), 0, none⟩)]), (.int .i64 4, .func (.func 71) #[] #[.pointer (some ⟨w.heap.size, 0, none⟩), .pointer (some ⟨(w.heap.size + 1), 0, none⟩), .pointer (some ⟨(w.heap.size + 1 + 1), 0, none⟩)])] 0).toArray 4)) :=
  run_insert_lit Tryz.underlying118 Tryz.underlying32 rfl [(.int .i64 1, .func (.func 67) #[] #[.pointer (some ⟨(w.heap.size + 1), 0, none⟩)]), (.int .i64 2, .func (.func 68) #[] #[.pointer (some ⟨(w.heap.size + 1), 0, none⟩)]), (.int .i64 3, .func (.func 69) #[] #[.pointer (some ⟨w.heap.size, 0, none⟩), .pointer (some ⟨(w.heap.size + 1), 0, none⟩)])] 3 _ _ rfl rfl w1
 have E2 := Lib.hid (E1.out.alloc (.map (ents [(.int .i64 1, .func (.func 67) #[] #[.pointer (some ⟨(w.heap.size + 1), 0, none⟩)]), (.int .i64 2, .func (.func 68) #[] #[.pointer (some ⟨(w.heap.size + 1), 0, none⟩)]), (.int .i64 3, .func (.func 69) #[] #[.pointer (some ⟨w.heap.size, 0, none⟩), .pointer (some ⟨(w.heap.size + 1), 0, none⟩)]), (.int .i64 4, .func (.func 71) #[] #[.pointer (some ⟨w.heap.size, 0, none⟩), .pointer (some ⟨(w.heap.size + 1), 0, none⟩), .pointer (some ⟨(w.heap.size + 1 + 1), 0, none⟩)])] 0).toArray 4))
 have e2 := (Ext.refl w1).alloc (.map (ents [(.int .i64 1, .func (.func 67) #[] #[.pointer (some ⟨(w.heap.size + 1), 0, none⟩)]), (.int .i64 2, .func (.func 68) #[] #[.pointer (some ⟨(w.heap.size + 1), 0, none⟩)]), (.int .i64 3, .func (.func 69) #[] #[.pointer (some ⟨w.heap.size, 0, none⟩), .pointer (some ⟨(w.heap.size + 1), 0, none⟩)]), (.int .i64 4, .func (.func 71) #[] #[.pointer (some ⟨w.heap.size, 0, none⟩), .pointer (some ⟨(w.heap.size + 1), 0, none⟩), .pointer (some ⟨(w.heap.size + 1 + 1), 0, none⟩)])] 0).toArray 4)
 have D3 := Lib.hid (C3.out.ext e2)
 have D4 := Lib.hid (C4.out.ext e2)
 have D5 := Lib.hid (C5.out.ext e2)
 have D6 := Lib.hid (C6.out.ext e2)
 have x0 := D4.out.cell 0
 simp only [List.getElem?_toArray, List.getElem?_cons_zero, List.getElem?_cons_succ] at x0
 rw [HK.out] at x0
 have lk := run_lookup_none Tryz.underlying118 Tryz.underlying32 rfl [(.int .i64 1, .func (.func 67) #[] #[.pointer (some ⟨(w.heap.size + 1), 0, none⟩)]), (.int .i64 2, .func (.func 68) #[] #[.pointer (some ⟨(w.heap.size + 1), 0, none⟩)]), (.int .i64 3, .func (.func 69) #[] #[.pointer (some ⟨w.heap.size, 0, none⟩), .pointer (some ⟨(w.heap.size + 1), 0, none⟩)]), (.int .i64 4, .func (.func 71) #[] #[.pointer (some ⟨w.heap.size, 0, none⟩), .pointer (some ⟨(w.heap.size + 1), 0, none⟩), .pointer (some ⟨(w.heap.size + 1 + 1), 0, none⟩)])] 4 w1.heap.size (.int .i64 0) .nilFunc (hzf _) (heap_alloc_new w1 (.map (ents [(.int .i64 1, .func (.func 67) #[] #[.pointer (some ⟨(w.heap.size + 1), 0, none⟩)]), (.int .i64 2, .func (.func 68) #[] #[.pointer (some ⟨(w.heap.size + 1), 0, none⟩)]), (.int .i64 3, .func (.func 69) #[] #[.pointer (some ⟨w.heap.size, 0, none⟩), .pointer (some ⟨(w.heap.size + 1), 0, none⟩)]), (.int .i64 4, .func (.func 71) #[] #[.pointer (some ⟨w.heap.size, 0, none⟩), .pointer (some ⟨(w.heap.size + 1), 0, none⟩), .pointer (some ⟨(w.heap.size + 1 + 1), 0, none⟩)])] 0).toArray 4)) (by rfl) true
 simp only [if_true] at lk
 clear e2 C3 C4 C5 C6 E1
 obtain ⟨z0, z1, z2, z3, y0, y1, y2, y3⟩ := four D6.out
 have hlt := D6.out.lt
 go_wp2_with fail
 exact bodyPost_ret (v := .agg #[.int .i64 0, .int .i64 0, .string ⟨#[]⟩, .slice none 0 0]) (by simp [results, Tryz.results49, go_sem, *]) rfl ((BepE.of_ext (D := D) (HWA.out.ext E2.out) rfl (Ext.refl _)).put E2.out (by omega) hlt HWB.out _ _ _ _)
end Go.Proofs.YtlfihdcgbhdajaaGreatDoor
