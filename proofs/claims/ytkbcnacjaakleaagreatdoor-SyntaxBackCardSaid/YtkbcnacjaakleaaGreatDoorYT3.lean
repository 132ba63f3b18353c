/- The teller: an expression. The teller: an operator. -/
import Derived.Test.YtkbcnacjaakleaaGreatDoorYT2
import Derived.Test.YtkbcnacjaakleaaGreatDoorYSyX
import Derived.Test.YtkbcnacjaakleaaGreatDoorYP04
set_option maxRecDepth 100000
set_option maxHeartbeats 32000000
set_option linter.unusedVariables false
set_option linter.unusedSimpArgs false
namespace Go.Proofs.YtkbcnacjaakleaaGreatDoor
open Go.RowKit

theorem texpr_10 (w : World) (T : Nat) (v : Value) (l : List Wd) (u : Value) (d : Nat) (x  : Nd) (hx : x.k = 10) (hn : NodeAt (· < T) w d u x) (h : TG T w v [] w v l) (hb : l.length + (tellN x).length ≤ 1000000000) :
  Calls Tryz.prog 153 #[.pointer (some ⟨T, 0, none⟩), u] w (TellE T w v l (tellN x)) := by
 have HBD := Lib.hid hb
 have HND := Lib.hid hn
 have HT := Lib.hid (show tellN x = [kwW tNil] by rw [tellN_eq]; simp [hx, tellK])
 obtain ⟨qn, cn, ql, cl, rfl, _, hk⟩ := hn.parts
 have l0 := h.blk.lt
 generalize x.names.length = nn at *
 have HK := Lib.hid hk
 obtain ⟨kn, hkn⟩ : ∃ kn, x.kids.length = kn := ⟨_, rfl⟩
 rw [hkn] at HK ⊢
 have HS0 := Lib.hid (h.newK (ndO x (.slice qn nn cn) (.slice ql kn cl)))
 clear hn h hb hk
 have e10 : (x.k == 10) = true := by rw [hx]; rfl
 clear hx
 go_enter Tryz.func153, Tryz.ntmps153
 go_wp2_with fail
 have hsz : (w.alloc (ndO x (.slice qn nn cn) (.slice ql kn cl))).heap.size = w.heap.size + 1 := size_alloc _ _
 generalize w.alloc (ndO x (.slice qn nn cn) (.slice ql kn cl)) = W0 at *
 refine (tkey_any W0 T v _ ⟨#[110, 105, 108]⟩ HS0.out.self (by have := HBD.out; rw [HT.out] at this; simp [innerT] at this ⊢; omega)).mono ?_
 rintro e w1 ⟨⟨_, rfl⟩, v1, S1⟩
 have HS1 := Lib.hid (HS0.out.call S1)
 clear S1
 go_wp2_with fail
 go_end0
 exact ⟨⟨_, rfl⟩, _, by rw [HT.out]; simpa [List.append_assoc, sgW, kwW, nmW, innerT] using HS1.out.nob⟩
theorem texpr_11 (w : World) (T : Nat) (v : Value) (l : List Wd) (u : Value) (d : Nat) (x  : Nd) (hx : x.k = 11) (hn : NodeAt (· < T) w d u x) (h : TG T w v [] w v l) (hb : l.length + (tellN x).length ≤ 1000000000) :
  Calls Tryz.prog 153 #[.pointer (some ⟨T, 0, none⟩), u] w (TellE T w v l (tellN x)) := by
 have HBD := Lib.hid hb
 have HND := Lib.hid hn
 have HT := Lib.hid (show tellN x = [kwW tTrue] by rw [tellN_eq]; simp [hx, tellK])
 obtain ⟨qn, cn, ql, cl, rfl, _, hk⟩ := hn.parts
 have l0 := h.blk.lt
 generalize x.names.length = nn at *
 have HK := Lib.hid hk
 obtain ⟨kn, hkn⟩ : ∃ kn, x.kids.length = kn := ⟨_, rfl⟩
 rw [hkn] at HK ⊢
 have HS0 := Lib.hid (h.newK (ndO x (.slice qn nn cn) (.slice ql kn cl)))
 clear hn h hb hk
 have e10 : (x.k == 10) = false := by rw [hx]; rfl
 have e11 : (x.k == 11) = true := by rw [hx]; rfl
 clear hx
 go_enter Tryz.func153, Tryz.ntmps153
 go_wp2_with fail
 have hsz : (w.alloc (ndO x (.slice qn nn cn) (.slice ql kn cl))).heap.size = w.heap.size + 1 := size_alloc _ _
 generalize w.alloc (ndO x (.slice qn nn cn) (.slice ql kn cl)) = W0 at *
 refine (tkey_any W0 T v _ ⟨#[116, 114, 117, 101]⟩ HS0.out.self (by have := HBD.out; rw [HT.out] at this; simp [innerT] at this ⊢; omega)).mono ?_
 rintro e w1 ⟨⟨_, rfl⟩, v1, S1⟩
 have HS1 := Lib.hid (HS0.out.call S1)
 clear S1
 go_wp2_with fail
 go_end0
 exact ⟨⟨_, rfl⟩, _, by rw [HT.out]; simpa [List.append_assoc, sgW, kwW, nmW, innerT] using HS1.out.nob⟩
theorem texpr_12 (w : World) (T : Nat) (v : Value) (l : List Wd) (u : Value) (d : Nat) (x  : Nd) (hx : x.k = 12) (hn : NodeAt (· < T) w d u x) (h : TG T w v [] w v l) (hb : l.length + (tellN x).length ≤ 1000000000) :
  Calls Tryz.prog 153 #[.pointer (some ⟨T, 0, none⟩), u] w (TellE T w v l (tellN x)) := by
 have HBD := Lib.hid hb
 have HND := Lib.hid hn
 have HT := Lib.hid (show tellN x = [kwW tFalse] by rw [tellN_eq]; simp [hx, tellK])
 obtain ⟨qn, cn, ql, cl, rfl, _, hk⟩ := hn.parts
 have l0 := h.blk.lt
 generalize x.names.length = nn at *
 have HK := Lib.hid hk
 obtain ⟨kn, hkn⟩ : ∃ kn, x.kids.length = kn := ⟨_, rfl⟩
 rw [hkn] at HK ⊢
 have HS0 := Lib.hid (h.newK (ndO x (.slice qn nn cn) (.slice ql kn cl)))
 clear hn h hb hk
 have e10 : (x.k == 10) = false := by rw [hx]; rfl
 have e11 : (x.k == 11) = false := by rw [hx]; rfl
 have e12 : (x.k == 12) = true := by rw [hx]; rfl
 clear hx
 go_enter Tryz.func153, Tryz.ntmps153
 go_wp2_with fail
 have hsz : (w.alloc (ndO x (.slice qn nn cn) (.slice ql kn cl))).heap.size = w.heap.size + 1 := size_alloc _ _
 generalize w.alloc (ndO x (.slice qn nn cn) (.slice ql kn cl)) = W0 at *
 refine (tkey_any W0 T v _ ⟨#[102, 97, 108, 115, 101]⟩ HS0.out.self (by have := HBD.out; rw [HT.out] at this; simp [innerT] at this ⊢; omega)).mono ?_
 rintro e w1 ⟨⟨_, rfl⟩, v1, S1⟩
 have HS1 := Lib.hid (HS0.out.call S1)
 clear S1
 go_wp2_with fail
 go_end0
 exact ⟨⟨_, rfl⟩, _, by rw [HT.out]; simpa [List.append_assoc, sgW, kwW, nmW, innerT] using HS1.out.nob⟩
theorem texpr_15 (w : World) (T : Nat) (v : Value) (l : List Wd) (u : Value) (d : Nat) (x  : Nd) (hx : x.k = 15) (hn : NodeAt (· < T) w d u x) (h : TG T w v [] w v l) (hb : l.length + (tellN x).length ≤ 1000000000) :
  Calls Tryz.prog 153 #[.pointer (some ⟨T, 0, none⟩), u] w (TellE T w v l (tellN x)) := by
 have HBD := Lib.hid hb
 have HND := Lib.hid hn
 have HT := Lib.hid (show tellN x = [nmW x.name] by rw [tellN_eq]; simp [hx, tellK])
 obtain ⟨qn, cn, ql, cl, rfl, _, hk⟩ := hn.parts
 have l0 := h.blk.lt
 generalize x.names.length = nn at *
 have HK := Lib.hid hk
 obtain ⟨kn, hkn⟩ : ∃ kn, x.kids.length = kn := ⟨_, rfl⟩
 rw [hkn] at HK ⊢
 have HS0 := Lib.hid (h.newK (ndO x (.slice qn nn cn) (.slice ql kn cl)))
 clear hn h hb hk
 have e10 : (x.k == 10) = false := by rw [hx]; rfl
 have e11 : (x.k == 11) = false := by rw [hx]; rfl
 have e12 : (x.k == 12) = false := by rw [hx]; rfl
 have e13 : (x.k == 13) = false := by rw [hx]; rfl
 have e14 : (x.k == 14) = false := by rw [hx]; rfl
 have e15 : (x.k == 15) = true := by rw [hx]; rfl
 clear hx
 go_enter Tryz.func153, Tryz.ntmps153
 go_wp2_with fail
 have hsz : (w.alloc (ndO x (.slice qn nn cn) (.slice ql kn cl))).heap.size = w.heap.size + 1 := size_alloc _ _
 generalize w.alloc (ndO x (.slice qn nn cn) (.slice ql kn cl)) = W0 at *
 refine (tname_any W0 T v _ x.name HS0.out.self (by have := HBD.out; rw [HT.out] at this; simp [innerT] at this ⊢; omega)).mono ?_
 rintro e w1 ⟨⟨_, rfl⟩, v1, S1⟩
 have HS1 := Lib.hid (HS0.out.call S1)
 clear S1
 go_wp2_with fail
 go_end0
 exact ⟨⟨_, rfl⟩, _, by rw [HT.out]; simpa [List.append_assoc, sgW, kwW, nmW, innerT] using HS1.out.nob⟩
theorem texpr_13 (w : World) (T : Nat) (v : Value) (l : List Wd) (u : Value) (d : Nat) (x  : Nd) (hx : x.k = 13) (hn : NodeAt (· < T) w d u x) (h : TG T w v [] w v l) (hb : l.length + (tellN x).length ≤ 1000000000) :
  Calls Tryz.prog 153 #[.pointer (some ⟨T, 0, none⟩), u] w (TellE T w v l (tellN x)) := by
 have HBD := Lib.hid hb
 have HND := Lib.hid hn
 have HT := Lib.hid (show tellN x = [⟨2, [], x.n, 0⟩] by rw [tellN_eq]; simp [hx, tellK])
 obtain ⟨qn, cn, ql, cl, rfl, _, hk⟩ := hn.parts
 have l0 := h.blk.lt
 generalize x.names.length = nn at *
 have HK := Lib.hid hk
 obtain ⟨kn, hkn⟩ : ∃ kn, x.kids.length = kn := ⟨_, rfl⟩
 rw [hkn] at HK ⊢
 clear hkn
 obtain ⟨qv, cv, rfl⟩ := h.slice
 have HS0 := Lib.hid (h.newK (ndO x (.slice qn nn cn) (.slice ql kn cl)))
 clear hn h hb hk
 have e10 : (x.k == 10) = false := by rw [hx]; rfl
 have e11 : (x.k == 11) = false := by rw [hx]; rfl
 have e12 : (x.k == 12) = false := by rw [hx]; rfl
 have e13 : (x.k == 13) = true := by rw [hx]; rfl
 clear hx
 go_enter Tryz.func153, Tryz.ntmps153
 go_wp2_with fail
 have hsz : (w.alloc (ndO x (.slice qn nn cn) (.slice ql kn cl))).heap.size = w.heap.size + 1 := size_alloc _ _
 generalize w.alloc (ndO x (.slice qn nn cn) (.slice ql kn cl)) = W0 at *
 clear hsz
 obtain ⟨b0, b1, b2, b3, b4, b5, bl⟩ := HS0.out.nbox
 have h1 := HS0.out.ext ((Ext.refl W0).drew)
 obtain ⟨q', c', W', hr, hbT, hS⟩ := h1.pushS 2 ⟨#[]⟩ x.n 75 (by have := HBD.out; rw [HT.out] at this; simp at this; omega)
 have hr' : AppRuns Tryz.prog 75 75 (.slice qv l.length cv) (.slice (some ⟨W0.heap.size, 0, none⟩) 1 1) (W0.drew.alloc (.cells #[.int .i64 2, .string ⟨#[]⟩, .int .i64 x.n, .int .i64 0] 138)) (.slice q' (l.length + 1) c') W' := hr
 have HR := Lib.hid hr'
 have z0 : W0.cell? ⟨T, 0, none⟩ = some (.slice qv l.length cv) := HS0.out.blk.cell 0
 have z1 : W'.cell? ⟨T, 0, none⟩ = some (.slice qv l.length cv) := hbT.cell 0
 have z2 : W'.cell? ⟨w.heap.size, 3, none⟩ = some (.int .i64 x.n) := by
  have e := hS.nbox
  have e2 := Below.heap_setCell W' ⟨T, 0, none⟩ (.slice q' (l.length + 1) c') w.heap.size (by show w.heap.size ≠ T; omega)
  exact (World.cell?_of_block e2).symm.trans e.2.2.2.1
 have f1 : W'.frozen? ⟨T, 0, none⟩ = false := hbT.frozen 0
 have l1 := hbT.lt
 have SS := And.intro z0 b3
 have SZ := And.intro z1 z2
 have HSF := Lib.hid hS
 clear hr hr' hbT hS h1 z0 b0 b1 b2 b3 b4 b5
 refine wp_region_gate (S := fun w' => w'.cell? ⟨T, 0, none⟩ = some (.slice qv l.length cv) ∧ w'.cell? ⟨w.heap.size, 3, none⟩ = some (.int .i64 x.n)) (g := 12) (by kernel_rfl) (SS) (fun hHeld => ?_)
 refine puG (i := 0) (v := ?_) ?_
 try simp only [Act.put, pzz]
 refine puG (i := 1) (v := ?_) ?_
 try simp only [Act.put, pzz]
 refine puG (i := 2) (v := ?_) ?_
 try simp only [Act.put, pzz]
 refine puG (i := 3) (v := ?_) ?_
 try simp only [Act.put, pzz]
 refine tkG (i := 4) (v := ?_) ?_
 try simp only [Act.put, pzz]
 refine puG (i := 5) (v := ?_) ?_
 try simp only [Act.put, pzz]
 refine tkG (i := 6) (v := ?_) ?_
 try simp only [Act.put, pzz]
 refine puG (i := 7) (v := ?_) ?_
 try simp only [Act.put, pzz]
 refine wpAnyG_ready (rs := [8]) (by kernel_rfl) (by simp) ?_
 refine AllReadyG.held rfl (fun K hK => ?_) AllReadyG.nil
 go_simp
 clear hHeld
 refine hK.out _ _ ?_ (fun hHeld => ?_)
 focus (
  (try dsimp only)
  go_keep)
 clear hK K
 try simp only [Act.put, pzz]
 refine wpAnyG_ready (rs := [9]) (by kernel_rfl) (by simp) ?_
 refine AllReadyG.held rfl (fun K hK => ?_) AllReadyG.nil
 refine step_append_runs rfl _ _ 75 rfl _ _ _ _ rfl rfl HR.out ?_
 clear hHeld
 refine hK.out _ _ (SZ) (fun hHeld => ?_)
 clear hK K
 try simp only [Act.put, pzz]
 refine puG (i := 10) (v := ?_) ?_
 try simp only [Act.put, pzz]
 refine puG (i := 11) (v := ?_) ?_
 try simp only [Act.put, pzz]
 refine wpAnyG_ready (rs := [12]) (by kernel_rfl) (by simp) ?_
 refine AllReadyG.free rfl (by kernel_rfl) (fun K hK => ?_) AllReadyG.nil
 go_simp
 clear hHeld
 refine hK.out _ _ ?_
 clear hK K
 try simp only [Act.put, pzz]
 refine wpAnyG_done (by kernel_rfl) ?_ _
 go_wp2_with fail
 go_end0
 exact ⟨⟨_, rfl⟩, _, by rw [HT.out]; exact HSF.out.nob⟩
theorem texpr_14 (w : World) (T : Nat) (v : Value) (l : List Wd) (u : Value) (d : Nat) (x  : Nd) (hx : x.k = 14) (hn : NodeAt (· < T) w d u x) (h : TG T w v [] w v l) (hb : l.length + (tellN x).length ≤ 1000000000) :
  Calls Tryz.prog 153 #[.pointer (some ⟨T, 0, none⟩), u] w (TellE T w v l (tellN x)) := by
 have HBD := Lib.hid hb
 have HND := Lib.hid hn
 have HT := Lib.hid (show tellN x = [⟨3, x.text.data.toList, 0, 0⟩] by rw [tellN_eq]; simp [hx, tellK])
 obtain ⟨qn, cn, ql, cl, rfl, _, hk⟩ := hn.parts
 have l0 := h.blk.lt
 generalize x.names.length = nn at *
 have HK := Lib.hid hk
 obtain ⟨kn, hkn⟩ : ∃ kn, x.kids.length = kn := ⟨_, rfl⟩
 rw [hkn] at HK ⊢
 clear hkn
 obtain ⟨qv, cv, rfl⟩ := h.slice
 have HS0 := Lib.hid (h.newK (ndO x (.slice qn nn cn) (.slice ql kn cl)))
 clear hn h hb hk
 have e10 : (x.k == 10) = false := by rw [hx]; rfl
 have e11 : (x.k == 11) = false := by rw [hx]; rfl
 have e12 : (x.k == 12) = false := by rw [hx]; rfl
 have e13 : (x.k == 13) = false := by rw [hx]; rfl
 have e14 : (x.k == 14) = true := by rw [hx]; rfl
 clear hx
 go_enter Tryz.func153, Tryz.ntmps153
 go_wp2_with fail
 have hsz : (w.alloc (ndO x (.slice qn nn cn) (.slice ql kn cl))).heap.size = w.heap.size + 1 := size_alloc _ _
 generalize w.alloc (ndO x (.slice qn nn cn) (.slice ql kn cl)) = W0 at *
 clear hsz
 obtain ⟨b0, b1, b2, b3, b4, b5, bl⟩ := HS0.out.nbox
 have h1 := HS0.out.ext ((Ext.refl W0).drew)
 obtain ⟨q', c', W', hr, hbT, hS⟩ := h1.pushS 3 x.text 0 75 (by have := HBD.out; rw [HT.out] at this; simp at this; omega)
 have hr' : AppRuns Tryz.prog 75 75 (.slice qv l.length cv) (.slice (some ⟨W0.heap.size, 0, none⟩) 1 1) (W0.drew.alloc (.cells #[.int .i64 3, .string x.text, .int .i64 0, .int .i64 0] 138)) (.slice q' (l.length + 1) c') W' := hr
 have HR := Lib.hid hr'
 have z0 : W0.cell? ⟨T, 0, none⟩ = some (.slice qv l.length cv) := HS0.out.blk.cell 0
 have z1 : W'.cell? ⟨T, 0, none⟩ = some (.slice qv l.length cv) := hbT.cell 0
 have z2 : W'.cell? ⟨w.heap.size, 2, none⟩ = some (.string x.text) := by
  have e := hS.nbox
  have e2 := Below.heap_setCell W' ⟨T, 0, none⟩ (.slice q' (l.length + 1) c') w.heap.size (by show w.heap.size ≠ T; omega)
  exact (World.cell?_of_block e2).symm.trans e.2.2.1
 have f1 : W'.frozen? ⟨T, 0, none⟩ = false := hbT.frozen 0
 have l1 := hbT.lt
 have SS := And.intro z0 b2
 have SZ := And.intro z1 z2
 have HSF := Lib.hid hS
 clear hr hr' hbT hS h1 z0 b0 b1 b2 b3 b4 b5
 refine wp_region_gate (S := fun w' => w'.cell? ⟨T, 0, none⟩ = some (.slice qv l.length cv) ∧ w'.cell? ⟨w.heap.size, 2, none⟩ = some (.string x.text)) (g := 12) (by kernel_rfl) (SS) (fun hHeld => ?_)
 refine puG (i := 0) (v := ?_) ?_
 try simp only [Act.put, pzz]
 refine puG (i := 1) (v := ?_) ?_
 try simp only [Act.put, pzz]
 refine puG (i := 2) (v := ?_) ?_
 try simp only [Act.put, pzz]
 refine puG (i := 3) (v := ?_) ?_
 try simp only [Act.put, pzz]
 refine tkG (i := 4) (v := ?_) ?_
 try simp only [Act.put, pzz]
 refine puG (i := 5) (v := ?_) ?_
 try simp only [Act.put, pzz]
 refine tkG (i := 6) (v := ?_) ?_
 try simp only [Act.put, pzz]
 refine puG (i := 7) (v := ?_) ?_
 try simp only [Act.put, pzz]
 refine wpAnyG_ready (rs := [8]) (by kernel_rfl) (by simp) ?_
 refine AllReadyG.held rfl (fun K hK => ?_) AllReadyG.nil
 go_simp
 clear hHeld
 refine hK.out _ _ ?_ (fun hHeld => ?_)
 focus (
  (try dsimp only)
  go_keep)
 clear hK K
 try simp only [Act.put, pzz]
 refine wpAnyG_ready (rs := [9]) (by kernel_rfl) (by simp) ?_
 refine AllReadyG.held rfl (fun K hK => ?_) AllReadyG.nil
 refine step_append_runs rfl _ _ 75 rfl _ _ _ _ rfl rfl HR.out ?_
 clear hHeld
 refine hK.out _ _ (SZ) (fun hHeld => ?_)
 clear hK K
 try simp only [Act.put, pzz]
 refine puG (i := 10) (v := ?_) ?_
 try simp only [Act.put, pzz]
 refine puG (i := 11) (v := ?_) ?_
 try simp only [Act.put, pzz]
 refine wpAnyG_ready (rs := [12]) (by kernel_rfl) (by simp) ?_
 refine AllReadyG.free rfl (by kernel_rfl) (fun K hK => ?_) AllReadyG.nil
 go_simp
 clear hHeld
 refine hK.out _ _ ?_
 clear hK K
 try simp only [Act.put, pzz]
 refine wpAnyG_done (by kernel_rfl) ?_ _
 go_wp2_with fail
 go_end0
 exact ⟨⟨_, rfl⟩, _, by rw [HT.out]; exact HSF.out.nob⟩
theorem texpr_16 (w : World) (T : Nat) (v : Value) (l : List Wd) (u : Value) (d : Nat) (x y z : Nd) (hx : x.k = 16) (hks : x.kids = [y, z]) (hX : XC (d - 1) y) (hZ : XC (d - 1) z) (hn : NodeAt (· < T) w d u x) (h : TG T w v [] w v l) (hb : l.length + (tellN x).length ≤ 1000000000) :
  Calls Tryz.prog 153 #[.pointer (some ⟨T, 0, none⟩), u] w (TellE T w v l (tellN x)) := by
 have HBD := Lib.hid hb
 have HND := Lib.hid hn
 have HT := Lib.hid (show tellN x = innerT (!(y.k == 15 || y.k == 17 || y.k == 16)) (tellN y) ++ sgW [91] :: (tellN z ++ [sgW [93]]) by rw [tellN_eq, hks]; simp [hx, tellK])
 obtain ⟨qn, cn, ql, cl, rfl, _, hk⟩ := hn.parts
 rw [hks] at hk ⊢
 have HK := Lib.hid (show KidsAt (· < T) w d (.slice ql 2 cl) [y, z] from hk)
 simp only [List.length_cons, List.length_nil, Nat.reduceAdd, Nat.zero_add]
 have l0 := h.blk.lt
 generalize x.names.length = nn at *
 have HXY := Lib.hid hX
 have HXZ := Lib.hid hZ
 clear hX hZ hks
 have HS0 := Lib.hid (h.newK (ndO x (.slice qn nn cn) (.slice ql 2 cl)))
 clear hn h hb hk
 have e10 : (x.k == 10) = false := by rw [hx]; rfl
 have e11 : (x.k == 11) = false := by rw [hx]; rfl
 have e12 : (x.k == 12) = false := by rw [hx]; rfl
 have e13 : (x.k == 13) = false := by rw [hx]; rfl
 have e14 : (x.k == 14) = false := by rw [hx]; rfl
 have e15 : (x.k == 15) = false := by rw [hx]; rfl
 have e16 : (x.k == 16) = true := by rw [hx]; rfl
 clear hx
 by_cases n15 : y.k = 15
 ·have hy := n15
  have y15 : (y.k == 15) = true := by rw [hy]; rfl
  have m15 : (y.k != 15) = false := by unfold bne; rw [y15]; rfl
  have y16 : (y.k == 16) = false := by rw [hy]; rfl
  have m16 : (y.k != 16) = true := by unfold bne; rw [y16]; rfl
  have y17 : (y.k == 17) = false := by rw [hy]; rfl
  have m17 : (y.k != 17) = true := by unfold bne; rw [y17]; rfl
  clear hy n15
  have HTF := Lib.hid (show innerT (!(y.k == 15 || y.k == 17 || y.k == 16)) (tellN y) = innerT false (tellN y) by rw [y15, y17, y16]; rfl)
  rw [HTF.out] at HT
  clear HTF
  go_enter Tryz.func153, Tryz.ntmps153
  go_upto_region 16 with (fail)
  have hsz : (w.alloc (ndO x (.slice qn nn cn) (.slice ql 2 cl))).heap.size = w.heap.size + 1 := size_alloc _ _
  generalize w.alloc (ndO x (.slice qn nn cn) (.slice ql 2 cl)) = W0 at *
  obtain ⟨b0, b1, b2, b3, b4, b5, bl⟩ := HS0.out.nbox
  obtain ⟨kb, ko, qm, mm, cm, qk, mk, ck, hq, bT, bw, k0, k1, k2, k3, k4, k5, hny⟩ := HS0.out.kid0 HK.out (y := y) rfl
  have HNY := Lib.hid hny
  clear hny
  cases hq
  go_wp2_with fail
  refine (tinner_any W0 T v _ _ (d - 1) y false HXY.out (HS0.out.node HNY.out) HS0.out.self (by have := HBD.out; rw [HT.out] at this; simp [innerT] at this ⊢; omega)).mono ?_
  rintro e w1 ⟨⟨_, rfl⟩, v1, S1⟩
  have HS1 := Lib.hid (HS0.out.call S1)
  clear S1
  clear b0 b1 b2 b3 b4 b5 bl k0 k1 k2 k3 k4 k5 HNY bT bw
  go_wp2_with fail
  refine (tsign1 w1 T v1 _ ⟨#[91]⟩ HS1.out.self (by have := HBD.out; rw [HT.out] at this; simp [innerT] at this ⊢; omega)).mono ?_
  rintro e w2 ⟨⟨_, rfl⟩, v2, S2⟩
  have HS2 := Lib.hid (HS1.out.call S2)
  clear S2
  obtain ⟨b0, b1, b2, b3, b4, b5, bl⟩ := HS2.out.nbox
  obtain ⟨kb, ko, qm, mm, cm, qk, mk, ck, hq, bT, bw, k0, k1, k2, k3, k4, k5, hny⟩ := HS2.out.kid1 HK.out (y := z) rfl
  have HNY := Lib.hid hny
  clear hny
  cases hq
  go_wp2_with fail
  refine (HXZ.out w2 T v2 _ _ (HS2.out.node HNY.out) HS2.out.self (by have := HBD.out; rw [HT.out] at this; simp [innerT] at this ⊢; omega)).mono ?_
  rintro e w3 ⟨⟨_, rfl⟩, v3, S3⟩
  have HS3 := Lib.hid (HS2.out.call S3)
  clear S3
  clear b0 b1 b2 b3 b4 b5 bl k0 k1 k2 k3 k4 k5 HNY bT bw
  go_wp2_with fail
  refine (tsign1 w3 T v3 _ ⟨#[93]⟩ HS3.out.self (by have := HBD.out; rw [HT.out] at this; simp [innerT] at this ⊢; omega)).mono ?_
  rintro e w4 ⟨⟨_, rfl⟩, v4, S4⟩
  have HS4 := Lib.hid (HS3.out.call S4)
  clear S4
  go_wp2_with fail
  go_end0
  exact ⟨⟨_, rfl⟩, _, by rw [HT.out]; simpa [List.append_assoc, sgW, kwW, nmW, innerT] using HS4.out.nob⟩
 by_cases n16 : y.k = 16
 ·have hy := n16
  have y15 : (y.k == 15) = false := by rw [hy]; rfl
  have m15 : (y.k != 15) = true := by unfold bne; rw [y15]; rfl
  have y16 : (y.k == 16) = true := by rw [hy]; rfl
  have m16 : (y.k != 16) = false := by unfold bne; rw [y16]; rfl
  have y17 : (y.k == 17) = false := by rw [hy]; rfl
  have m17 : (y.k != 17) = true := by unfold bne; rw [y17]; rfl
  clear hy n15 n16
  have HTF := Lib.hid (show innerT (!(y.k == 15 || y.k == 17 || y.k == 16)) (tellN y) = innerT false (tellN y) by rw [y15, y17, y16]; rfl)
  rw [HTF.out] at HT
  clear HTF
  go_enter Tryz.func153, Tryz.ntmps153
  go_upto_region 16 with (fail)
  have hsz : (w.alloc (ndO x (.slice qn nn cn) (.slice ql 2 cl))).heap.size = w.heap.size + 1 := size_alloc _ _
  generalize w.alloc (ndO x (.slice qn nn cn) (.slice ql 2 cl)) = W0 at *
  obtain ⟨b0, b1, b2, b3, b4, b5, bl⟩ := HS0.out.nbox
  obtain ⟨kb, ko, qm, mm, cm, qk, mk, ck, hq, bT, bw, k0, k1, k2, k3, k4, k5, hny⟩ := HS0.out.kid0 HK.out (y := y) rfl
  have HNY := Lib.hid hny
  clear hny
  cases hq
  go_wp2_with fail
  refine (tinner_any W0 T v _ _ (d - 1) y false HXY.out (HS0.out.node HNY.out) HS0.out.self (by have := HBD.out; rw [HT.out] at this; simp [innerT] at this ⊢; omega)).mono ?_
  rintro e w1 ⟨⟨_, rfl⟩, v1, S1⟩
  have HS1 := Lib.hid (HS0.out.call S1)
  clear S1
  clear b0 b1 b2 b3 b4 b5 bl k0 k1 k2 k3 k4 k5 HNY bT bw
  go_wp2_with fail
  refine (tsign1 w1 T v1 _ ⟨#[91]⟩ HS1.out.self (by have := HBD.out; rw [HT.out] at this; simp [innerT] at this ⊢; omega)).mono ?_
  rintro e w2 ⟨⟨_, rfl⟩, v2, S2⟩
  have HS2 := Lib.hid (HS1.out.call S2)
  clear S2
  obtain ⟨b0, b1, b2, b3, b4, b5, bl⟩ := HS2.out.nbox
  obtain ⟨kb, ko, qm, mm, cm, qk, mk, ck, hq, bT, bw, k0, k1, k2, k3, k4, k5, hny⟩ := HS2.out.kid1 HK.out (y := z) rfl
  have HNY := Lib.hid hny
  clear hny
  cases hq
  go_wp2_with fail
  refine (HXZ.out w2 T v2 _ _ (HS2.out.node HNY.out) HS2.out.self (by have := HBD.out; rw [HT.out] at this; simp [innerT] at this ⊢; omega)).mono ?_
  rintro e w3 ⟨⟨_, rfl⟩, v3, S3⟩
  have HS3 := Lib.hid (HS2.out.call S3)
  clear S3
  clear b0 b1 b2 b3 b4 b5 bl k0 k1 k2 k3 k4 k5 HNY bT bw
  go_wp2_with fail
  refine (tsign1 w3 T v3 _ ⟨#[93]⟩ HS3.out.self (by have := HBD.out; rw [HT.out] at this; simp [innerT] at this ⊢; omega)).mono ?_
  rintro e w4 ⟨⟨_, rfl⟩, v4, S4⟩
  have HS4 := Lib.hid (HS3.out.call S4)
  clear S4
  go_wp2_with fail
  go_end0
  exact ⟨⟨_, rfl⟩, _, by rw [HT.out]; simpa [List.append_assoc, sgW, kwW, nmW, innerT] using HS4.out.nob⟩
 by_cases n17 : y.k = 17
 ·have hy := n17
  have y15 : (y.k == 15) = false := by rw [hy]; rfl
  have m15 : (y.k != 15) = true := by unfold bne; rw [y15]; rfl
  have y16 : (y.k == 16) = false := by rw [hy]; rfl
  have m16 : (y.k != 16) = true := by unfold bne; rw [y16]; rfl
  have y17 : (y.k == 17) = true := by rw [hy]; rfl
  have m17 : (y.k != 17) = false := by unfold bne; rw [y17]; rfl
  clear hy n15 n16 n17
  have HTF := Lib.hid (show innerT (!(y.k == 15 || y.k == 17 || y.k == 16)) (tellN y) = innerT false (tellN y) by rw [y15, y17, y16]; rfl)
  rw [HTF.out] at HT
  clear HTF
  go_enter Tryz.func153, Tryz.ntmps153
  go_upto_region 16 with (fail)
  have hsz : (w.alloc (ndO x (.slice qn nn cn) (.slice ql 2 cl))).heap.size = w.heap.size + 1 := size_alloc _ _
  generalize w.alloc (ndO x (.slice qn nn cn) (.slice ql 2 cl)) = W0 at *
  obtain ⟨b0, b1, b2, b3, b4, b5, bl⟩ := HS0.out.nbox
  obtain ⟨kb, ko, qm, mm, cm, qk, mk, ck, hq, bT, bw, k0, k1, k2, k3, k4, k5, hny⟩ := HS0.out.kid0 HK.out (y := y) rfl
  have HNY := Lib.hid hny
  clear hny
  cases hq
  go_wp2_with fail
  refine (tinner_any W0 T v _ _ (d - 1) y false HXY.out (HS0.out.node HNY.out) HS0.out.self (by have := HBD.out; rw [HT.out] at this; simp [innerT] at this ⊢; omega)).mono ?_
  rintro e w1 ⟨⟨_, rfl⟩, v1, S1⟩
  have HS1 := Lib.hid (HS0.out.call S1)
  clear S1
  clear b0 b1 b2 b3 b4 b5 bl k0 k1 k2 k3 k4 k5 HNY bT bw
  go_wp2_with fail
  refine (tsign1 w1 T v1 _ ⟨#[91]⟩ HS1.out.self (by have := HBD.out; rw [HT.out] at this; simp [innerT] at this ⊢; omega)).mono ?_
  rintro e w2 ⟨⟨_, rfl⟩, v2, S2⟩
  have HS2 := Lib.hid (HS1.out.call S2)
  clear S2
  obtain ⟨b0, b1, b2, b3, b4, b5, bl⟩ := HS2.out.nbox
  obtain ⟨kb, ko, qm, mm, cm, qk, mk, ck, hq, bT, bw, k0, k1, k2, k3, k4, k5, hny⟩ := HS2.out.kid1 HK.out (y := z) rfl
  have HNY := Lib.hid hny
  clear hny
  cases hq
  go_wp2_with fail
  refine (HXZ.out w2 T v2 _ _ (HS2.out.node HNY.out) HS2.out.self (by have := HBD.out; rw [HT.out] at this; simp [innerT] at this ⊢; omega)).mono ?_
  rintro e w3 ⟨⟨_, rfl⟩, v3, S3⟩
  have HS3 := Lib.hid (HS2.out.call S3)
  clear S3
  clear b0 b1 b2 b3 b4 b5 bl k0 k1 k2 k3 k4 k5 HNY bT bw
  go_wp2_with fail
  refine (tsign1 w3 T v3 _ ⟨#[93]⟩ HS3.out.self (by have := HBD.out; rw [HT.out] at this; simp [innerT] at this ⊢; omega)).mono ?_
  rintro e w4 ⟨⟨_, rfl⟩, v4, S4⟩
  have HS4 := Lib.hid (HS3.out.call S4)
  clear S4
  go_wp2_with fail
  go_end0
  exact ⟨⟨_, rfl⟩, _, by rw [HT.out]; simpa [List.append_assoc, sgW, kwW, nmW, innerT] using HS4.out.nob⟩
 have y15 : (y.k == 15) = false := beq_eq_false_iff_ne.2 n15
 have m15 : (y.k != 15) = true := by unfold bne; rw [y15]; rfl
 have y16 : (y.k == 16) = false := beq_eq_false_iff_ne.2 n16
 have m16 : (y.k != 16) = true := by unfold bne; rw [y16]; rfl
 have y17 : (y.k == 17) = false := beq_eq_false_iff_ne.2 n17
 have m17 : (y.k != 17) = true := by unfold bne; rw [y17]; rfl
 clear n15 n16 n17
 have HTF := Lib.hid (show innerT (!(y.k == 15 || y.k == 17 || y.k == 16)) (tellN y) = innerT true (tellN y) by rw [y15, y17, y16]; rfl)
 rw [HTF.out] at HT
 clear HTF
 go_enter Tryz.func153, Tryz.ntmps153
 go_upto_region 16 with (fail)
 have hsz : (w.alloc (ndO x (.slice qn nn cn) (.slice ql 2 cl))).heap.size = w.heap.size + 1 := size_alloc _ _
 generalize w.alloc (ndO x (.slice qn nn cn) (.slice ql 2 cl)) = W0 at *
 obtain ⟨b0, b1, b2, b3, b4, b5, bl⟩ := HS0.out.nbox
 obtain ⟨kb, ko, qm, mm, cm, qk, mk, ck, hq, bT, bw, k0, k1, k2, k3, k4, k5, hny⟩ := HS0.out.kid0 HK.out (y := y) rfl
 have HNY := Lib.hid hny
 clear hny
 cases hq
 go_wp2_with fail
 refine (tinner_any W0 T v _ _ (d - 1) y true HXY.out (HS0.out.node HNY.out) HS0.out.self (by have := HBD.out; rw [HT.out] at this; simp [innerT] at this ⊢; omega)).mono ?_
 rintro e w1 ⟨⟨_, rfl⟩, v1, S1⟩
 have HS1 := Lib.hid (HS0.out.call S1)
 clear S1
 clear b0 b1 b2 b3 b4 b5 bl k0 k1 k2 k3 k4 k5 HNY bT bw
 go_wp2_with fail
 refine (tsign1 w1 T v1 _ ⟨#[91]⟩ HS1.out.self (by have := HBD.out; rw [HT.out] at this; simp [innerT] at this ⊢; omega)).mono ?_
 rintro e w2 ⟨⟨_, rfl⟩, v2, S2⟩
 have HS2 := Lib.hid (HS1.out.call S2)
 clear S2
 obtain ⟨b0, b1, b2, b3, b4, b5, bl⟩ := HS2.out.nbox
 obtain ⟨kb, ko, qm, mm, cm, qk, mk, ck, hq, bT, bw, k0, k1, k2, k3, k4, k5, hny⟩ := HS2.out.kid1 HK.out (y := z) rfl
 have HNY := Lib.hid hny
 clear hny
 cases hq
 go_wp2_with fail
 refine (HXZ.out w2 T v2 _ _ (HS2.out.node HNY.out) HS2.out.self (by have := HBD.out; rw [HT.out] at this; simp [innerT] at this ⊢; omega)).mono ?_
 rintro e w3 ⟨⟨_, rfl⟩, v3, S3⟩
 have HS3 := Lib.hid (HS2.out.call S3)
 clear S3
 clear b0 b1 b2 b3 b4 b5 bl k0 k1 k2 k3 k4 k5 HNY bT bw
 go_wp2_with fail
 refine (tsign1 w3 T v3 _ ⟨#[93]⟩ HS3.out.self (by have := HBD.out; rw [HT.out] at this; simp [innerT] at this ⊢; omega)).mono ?_
 rintro e w4 ⟨⟨_, rfl⟩, v4, S4⟩
 have HS4 := Lib.hid (HS3.out.call S4)
 clear S4
 go_wp2_with fail
 go_end0
 exact ⟨⟨_, rfl⟩, _, by rw [HT.out]; simpa [List.append_assoc, sgW, kwW, nmW, innerT] using HS4.out.nob⟩
theorem texpr_17 (w : World) (T : Nat) (v : Value) (l : List Wd) (u : Value) (d : Nat) (x  : Nd) (hx : x.k = 17) (hX : ∀ y ∈ x.kids, XC (d - 1) y) (hs : x.kids.length ≤ 140737488355328) (hn : NodeAt (· < T) w d u x) (h : TG T w v [] w v l) (hb : l.length + (tellN x).length ≤ 1000000000) :
  Calls Tryz.prog 153 #[.pointer (some ⟨T, 0, none⟩), u] w (TellE T w v l (tellN x)) := by
 have HBD := Lib.hid hb
 have HND := Lib.hid hn
 have HT := Lib.hid (show tellN x = nmW x.name :: sgW [40] :: (commaT (x.kids.map tellN) ++ [sgW [41]]) by rw [tellN_eq]; simp [hx, tellK])
 obtain ⟨qn, cn, ql, cl, rfl, _, hk⟩ := hn.parts
 have l0 := h.blk.lt
 generalize x.names.length = nn at *
 have HK := Lib.hid hk
 obtain ⟨kn, hkn⟩ : ∃ kn, x.kids.length = kn := ⟨_, rfl⟩
 rw [hkn] at HK ⊢
 have HX := Lib.hid hX
 have HKL := Lib.hid hs
 clear hX hs hkn
 have HS0 := Lib.hid (h.newK (ndO x (.slice qn nn cn) (.slice ql kn cl)))
 clear hn h hb hk
 have e10 : (x.k == 10) = false := by rw [hx]; rfl
 have e11 : (x.k == 11) = false := by rw [hx]; rfl
 have e12 : (x.k == 12) = false := by rw [hx]; rfl
 have e13 : (x.k == 13) = false := by rw [hx]; rfl
 have e14 : (x.k == 14) = false := by rw [hx]; rfl
 have e15 : (x.k == 15) = false := by rw [hx]; rfl
 have e16 : (x.k == 16) = false := by rw [hx]; rfl
 have e17 : (x.k == 17) = true := by rw [hx]; rfl
 clear hx
 go_enter Tryz.func153, Tryz.ntmps153
 go_wp2_with fail
 have hsz : (w.alloc (ndO x (.slice qn nn cn) (.slice ql kn cl))).heap.size = w.heap.size + 1 := size_alloc _ _
 generalize w.alloc (ndO x (.slice qn nn cn) (.slice ql kn cl)) = W0 at *
 refine (tname_any W0 T v _ x.name HS0.out.self (by have := HBD.out; rw [HT.out] at this; simp [innerT] at this ⊢; omega)).mono ?_
 rintro e w1 ⟨⟨_, rfl⟩, v1, S1⟩
 have HS1 := Lib.hid (HS0.out.call S1)
 clear S1
 go_wp2_with fail
 refine (tsign1 w1 T v1 _ ⟨#[40]⟩ HS1.out.self (by have := HBD.out; rw [HT.out] at this; simp [innerT] at this ⊢; omega)).mono ?_
 rintro e w2 ⟨⟨_, rfl⟩, v2, S2⟩
 have HS2 := Lib.hid (HS1.out.call S2)
 clear S2
 obtain ⟨b0, b1, b2, b3, b4, b5, bl⟩ := HS2.out.nbox
 go_wp2_with fail
 refine (tlist_any w2 T v2 _ _ d x.kids HX.out (HS2.out.kids HK.out) HS2.out.self HKL.out (by have := HBD.out; rw [HT.out] at this; simp [innerT] at this ⊢; omega)).mono ?_
 rintro e w3 ⟨⟨_, rfl⟩, v3, S3⟩
 have HS3 := Lib.hid (HS2.out.call S3)
 clear S3
 clear b0 b1 b2 b3 b4 b5 bl
 go_wp2_with fail
 refine (tsign1 w3 T v3 _ ⟨#[41]⟩ HS3.out.self (by have := HBD.out; rw [HT.out] at this; simp [innerT] at this ⊢; omega)).mono ?_
 rintro e w4 ⟨⟨_, rfl⟩, v4, S4⟩
 have HS4 := Lib.hid (HS3.out.call S4)
 clear S4
 go_wp2_with fail
 go_end0
 exact ⟨⟨_, rfl⟩, _, by rw [HT.out]; simpa [List.append_assoc, sgW, kwW, nmW, innerT] using HS4.out.nob⟩
theorem texpr_18 (w : World) (T : Nat) (v : Value) (l : List Wd) (u : Value) (d : Nat) (x  : Nd) (hx : x.k = 18) (hX : ∀ y ∈ x.kids, (y.k = 19 ∧ ∃ a, y.kids = [a] ∧ XC (d - 1 - 1) a) ∨ (y.k = 20 ∧ ∃ a b, y.kids = [a, b] ∧ XC (d - 1 - 1) a ∧ XC (d - 1 - 1) b)) (hs : x.kids.length ≤ 140737488355328) (hn : NodeAt (· < T) w d u x) (h : TG T w v [] w v l) (hb : l.length + (tellN x).length ≤ 1000000000) :
  Calls Tryz.prog 153 #[.pointer (some ⟨T, 0, none⟩), u] w (TellE T w v l (tellN x)) := by
 have HBD := Lib.hid hb
 have HND := Lib.hid hn
 have HT := Lib.hid (show tellN x = sgW [123] :: (commaT (x.kids.map tellN) ++ [sgW [125]]) by rw [tellN_eq]; simp [hx, tellK])
 obtain ⟨qn, cn, ql, cl, rfl, _, hk⟩ := hn.parts
 have l0 := h.blk.lt
 generalize x.names.length = nn at *
 have HK := Lib.hid hk
 obtain ⟨kn, hkn⟩ : ∃ kn, x.kids.length = kn := ⟨_, rfl⟩
 rw [hkn] at HK ⊢
 have HX := Lib.hid hX
 have HKL := Lib.hid hs
 clear hX hs hkn
 have HS0 := Lib.hid (h.newK (ndO x (.slice qn nn cn) (.slice ql kn cl)))
 clear hn h hb hk
 have e10 : (x.k == 10) = false := by rw [hx]; rfl
 have e11 : (x.k == 11) = false := by rw [hx]; rfl
 have e12 : (x.k == 12) = false := by rw [hx]; rfl
 have e13 : (x.k == 13) = false := by rw [hx]; rfl
 have e14 : (x.k == 14) = false := by rw [hx]; rfl
 have e15 : (x.k == 15) = false := by rw [hx]; rfl
 have e16 : (x.k == 16) = false := by rw [hx]; rfl
 have e17 : (x.k == 17) = false := by rw [hx]; rfl
 have e18 : (x.k == 18) = true := by rw [hx]; rfl
 clear hx
 go_enter Tryz.func153, Tryz.ntmps153
 go_wp2_with fail
 have hsz : (w.alloc (ndO x (.slice qn nn cn) (.slice ql kn cl))).heap.size = w.heap.size + 1 := size_alloc _ _
 generalize w.alloc (ndO x (.slice qn nn cn) (.slice ql kn cl)) = W0 at *
 refine (ttable_any W0 T v _ _ d x.kids HX.out (HS0.out.kids HK.out) HS0.out.self HKL.out (by have := HBD.out; rw [HT.out] at this; simp [innerT] at this ⊢; omega)).mono ?_
 rintro e w1 ⟨⟨_, rfl⟩, v1, S1⟩
 have HS1 := Lib.hid (HS0.out.call S1)
 clear S1
 go_wp2_with fail
 go_end0
 exact ⟨⟨_, rfl⟩, _, by rw [HT.out]; simpa [List.append_assoc, sgW, kwW, nmW, innerT] using HS1.out.nob⟩
theorem texpr_22 (w : World) (T : Nat) (v : Value) (l : List Wd) (u : Value) (d : Nat) (x  : Nd) (hx : x.k = 22) (y : Nd) (hks : x.kids = [y]) (hX : XC (d - 1) y) (hn : NodeAt (· < T) w d u x) (h : TG T w v [] w v l) (hb : l.length + (tellN x).length ≤ 1000000000) :
  Calls Tryz.prog 153 #[.pointer (some ⟨T, 0, none⟩), u] w (TellE T w v l (tellN x)) := by
 have HBD := Lib.hid hb
 have HND := Lib.hid hn
 obtain ⟨qn, cn, ql, cl, rfl, _, hk⟩ := hn.parts
 have HX := Lib.hid hX
 have HKS := Lib.hid hks
 have HXK := Lib.hid (show x.k = 22 ∨ x.k = 23 ∨ x.k = 24 by rw [hx]; decide)
 have l0 := h.blk.lt
 generalize x.names.length = nn at *
 obtain ⟨kn, hkn⟩ : ∃ kn, x.kids.length = kn := ⟨_, rfl⟩
 rw [hkn] at HND ⊢
 clear hX hkn hks
 have HS0 := Lib.hid (h.newK (ndO x (.slice qn nn cn) (.slice ql kn cl)))
 clear hn h hb hk
 have e10 : (x.k == 10) = false := by rw [hx]; rfl
 have e11 : (x.k == 11) = false := by rw [hx]; rfl
 have e12 : (x.k == 12) = false := by rw [hx]; rfl
 have e13 : (x.k == 13) = false := by rw [hx]; rfl
 have e14 : (x.k == 14) = false := by rw [hx]; rfl
 have e15 : (x.k == 15) = false := by rw [hx]; rfl
 have e16 : (x.k == 16) = false := by rw [hx]; rfl
 have e17 : (x.k == 17) = false := by rw [hx]; rfl
 have e18 : (x.k == 18) = false := by rw [hx]; rfl
 have e21 : (x.k == 21) = false := by rw [hx]; rfl
 clear hx
 go_enter Tryz.func153, Tryz.ntmps153
 go_wp2_with fail
 have hsz : (w.alloc (ndO x (.slice qn nn cn) (.slice ql kn cl))).heap.size = w.heap.size + 1 := size_alloc _ _
 generalize w.alloc (ndO x (.slice qn nn cn) (.slice ql kn cl)) = W0 at *
 refine (tahead_any W0 T v _ _ d x y HXK.out HKS.out HX.out (HS0.out.node HND.out) HS0.out.self HBD.out).mono ?_
 rintro e w1 ⟨⟨_, rfl⟩, v1, S1⟩
 have HS1 := Lib.hid (HS0.out.call S1)
 clear S1
 go_wp2_with fail
 go_end0
 exact ⟨⟨_, rfl⟩, _, HS1.out.nob⟩
theorem texpr_23 (w : World) (T : Nat) (v : Value) (l : List Wd) (u : Value) (d : Nat) (x  : Nd) (hx : x.k = 23) (y : Nd) (hks : x.kids = [y]) (hX : XC (d - 1) y) (hn : NodeAt (· < T) w d u x) (h : TG T w v [] w v l) (hb : l.length + (tellN x).length ≤ 1000000000) :
  Calls Tryz.prog 153 #[.pointer (some ⟨T, 0, none⟩), u] w (TellE T w v l (tellN x)) := by
 have HBD := Lib.hid hb
 have HND := Lib.hid hn
 obtain ⟨qn, cn, ql, cl, rfl, _, hk⟩ := hn.parts
 have HX := Lib.hid hX
 have HKS := Lib.hid hks
 have HXK := Lib.hid (show x.k = 22 ∨ x.k = 23 ∨ x.k = 24 by rw [hx]; decide)
 have l0 := h.blk.lt
 generalize x.names.length = nn at *
 obtain ⟨kn, hkn⟩ : ∃ kn, x.kids.length = kn := ⟨_, rfl⟩
 rw [hkn] at HND ⊢
 clear hX hkn hks
 have HS0 := Lib.hid (h.newK (ndO x (.slice qn nn cn) (.slice ql kn cl)))
 clear hn h hb hk
 have e10 : (x.k == 10) = false := by rw [hx]; rfl
 have e11 : (x.k == 11) = false := by rw [hx]; rfl
 have e12 : (x.k == 12) = false := by rw [hx]; rfl
 have e13 : (x.k == 13) = false := by rw [hx]; rfl
 have e14 : (x.k == 14) = false := by rw [hx]; rfl
 have e15 : (x.k == 15) = false := by rw [hx]; rfl
 have e16 : (x.k == 16) = false := by rw [hx]; rfl
 have e17 : (x.k == 17) = false := by rw [hx]; rfl
 have e18 : (x.k == 18) = false := by rw [hx]; rfl
 have e21 : (x.k == 21) = false := by rw [hx]; rfl
 clear hx
 go_enter Tryz.func153, Tryz.ntmps153
 go_wp2_with fail
 have hsz : (w.alloc (ndO x (.slice qn nn cn) (.slice ql kn cl))).heap.size = w.heap.size + 1 := size_alloc _ _
 generalize w.alloc (ndO x (.slice qn nn cn) (.slice ql kn cl)) = W0 at *
 refine (tahead_any W0 T v _ _ d x y HXK.out HKS.out HX.out (HS0.out.node HND.out) HS0.out.self HBD.out).mono ?_
 rintro e w1 ⟨⟨_, rfl⟩, v1, S1⟩
 have HS1 := Lib.hid (HS0.out.call S1)
 clear S1
 go_wp2_with fail
 go_end0
 exact ⟨⟨_, rfl⟩, _, HS1.out.nob⟩
theorem texpr_24 (w : World) (T : Nat) (v : Value) (l : List Wd) (u : Value) (d : Nat) (x  : Nd) (hx : x.k = 24) (y : Nd) (hks : x.kids = [y]) (hX : XC (d - 1) y) (hn : NodeAt (· < T) w d u x) (h : TG T w v [] w v l) (hb : l.length + (tellN x).length ≤ 1000000000) :
  Calls Tryz.prog 153 #[.pointer (some ⟨T, 0, none⟩), u] w (TellE T w v l (tellN x)) := by
 have HBD := Lib.hid hb
 have HND := Lib.hid hn
 obtain ⟨qn, cn, ql, cl, rfl, _, hk⟩ := hn.parts
 have HX := Lib.hid hX
 have HKS := Lib.hid hks
 have HXK := Lib.hid (show x.k = 22 ∨ x.k = 23 ∨ x.k = 24 by rw [hx]; decide)
 have l0 := h.blk.lt
 generalize x.names.length = nn at *
 obtain ⟨kn, hkn⟩ : ∃ kn, x.kids.length = kn := ⟨_, rfl⟩
 rw [hkn] at HND ⊢
 clear hX hkn hks
 have HS0 := Lib.hid (h.newK (ndO x (.slice qn nn cn) (.slice ql kn cl)))
 clear hn h hb hk
 have e10 : (x.k == 10) = false := by rw [hx]; rfl
 have e11 : (x.k == 11) = false := by rw [hx]; rfl
 have e12 : (x.k == 12) = false := by rw [hx]; rfl
 have e13 : (x.k == 13) = false := by rw [hx]; rfl
 have e14 : (x.k == 14) = false := by rw [hx]; rfl
 have e15 : (x.k == 15) = false := by rw [hx]; rfl
 have e16 : (x.k == 16) = false := by rw [hx]; rfl
 have e17 : (x.k == 17) = false := by rw [hx]; rfl
 have e18 : (x.k == 18) = false := by rw [hx]; rfl
 have e21 : (x.k == 21) = false := by rw [hx]; rfl
 clear hx
 go_enter Tryz.func153, Tryz.ntmps153
 go_wp2_with fail
 have hsz : (w.alloc (ndO x (.slice qn nn cn) (.slice ql kn cl))).heap.size = w.heap.size + 1 := size_alloc _ _
 generalize w.alloc (ndO x (.slice qn nn cn) (.slice ql kn cl)) = W0 at *
 refine (tahead_any W0 T v _ _ d x y HXK.out HKS.out HX.out (HS0.out.node HND.out) HS0.out.self HBD.out).mono ?_
 rintro e w1 ⟨⟨_, rfl⟩, v1, S1⟩
 have HS1 := Lib.hid (HS0.out.call S1)
 clear S1
 go_wp2_with fail
 go_end0
 exact ⟨⟨_, rfl⟩, _, HS1.out.nob⟩
theorem texpr_21 (w : World) (T : Nat) (v : Value) (l : List Wd) (u : Value) (d : Nat) (x y z : Nd) (hx : x.k = 21) (hks : x.kids = [y, z]) (hX : XC (d - 1) y) (hZ : XC (d - 1) z) (hn : NodeAt (· < T) w d u x) (h : TG T w v [] w v l) (hb : l.length + (tellN x).length ≤ 1000000000) :
  Calls Tryz.prog 153 #[.pointer (some ⟨T, 0, none⟩), u] w (TellE T w v l (tellN x)) := by
 have HBD := Lib.hid hb
 have HND := Lib.hid hn
 have HT := Lib.hid (show tellN x = innerT (madeK y.k) (tellN y) ++ opW x.name :: innerT (madeK z.k) (tellN z) by rw [tellN_eq, hks]; simp [hx, tellK])
 obtain ⟨qn, cn, ql, cl, rfl, _, hk⟩ := hn.parts
 rw [hks] at hk ⊢
 have HK := Lib.hid (show KidsAt (· < T) w d (.slice ql 2 cl) [y, z] from hk)
 simp only [List.length_cons, List.length_nil, Nat.reduceAdd, Nat.zero_add]
 have l0 := h.blk.lt
 generalize x.names.length = nn at *
 have HXY := Lib.hid hX
 have HXZ := Lib.hid hZ
 clear hX hZ hks
 have HS0 := Lib.hid (h.newK (ndO x (.slice qn nn cn) (.slice ql 2 cl)))
 clear hn h hb hk
 have e10 : (x.k == 10) = false := by rw [hx]; rfl
 have e11 : (x.k == 11) = false := by rw [hx]; rfl
 have e12 : (x.k == 12) = false := by rw [hx]; rfl
 have e13 : (x.k == 13) = false := by rw [hx]; rfl
 have e14 : (x.k == 14) = false := by rw [hx]; rfl
 have e15 : (x.k == 15) = false := by rw [hx]; rfl
 have e16 : (x.k == 16) = false := by rw [hx]; rfl
 have e17 : (x.k == 17) = false := by rw [hx]; rfl
 have e18 : (x.k == 18) = false := by rw [hx]; rfl
 have e21 : (x.k == 21) = true := by rw [hx]; rfl
 clear hx
 by_cases hA : x.name = ⟨#[97, 110, 100]⟩
 ·have q1 : (x.name == (⟨#[97, 110, 100]⟩ : ByteArray)) = true := (ba_iff _ _).2 hA
  have p1 : (x.name.toList == [97, 110, 100]) = true := by have := q1; rw [ba_beq, Lib.toList_data ⟨#[97, 110, 100]⟩] at this; exact this
  have HO := Lib.hid (show opW x.name = kwW x.name.data.toList by rw [hA]; rfl)
  clear hA
  rw [HO.out] at HT
  clear HO
  (try clear q1)
  (try clear q2)
  go_enter Tryz.func153, Tryz.ntmps153
  go_upto_region 28 with (fail)
  have hsz : (w.alloc (ndO x (.slice qn nn cn) (.slice ql 2 cl))).heap.size = w.heap.size + 1 := size_alloc _ _
  clear hsz
  generalize w.alloc (ndO x (.slice qn nn cn) (.slice ql 2 cl)) = W0 at *
  go_wp2_with fail
  obtain ⟨b0, b1, b2, b3, b4, b5, bl⟩ := HS0.out.nbox
  obtain ⟨kb, ko, qm, mm, cm, qk, mk, ck, hq, bT, bw, k0, k1, k2, k3, k4, k5, hny⟩ := HS0.out.kid0 HK.out (y := y) rfl
  have HNY := Lib.hid hny
  clear hny
  cases hq
  have SS := And.intro b5 (And.intro k0 (And.intro k1 (And.intro k2 (And.intro k3 (And.intro k4 k5)))))
  clear b0 b1 b2 b3 b4 b5 k0 k1 k2 k3 k4 k5
  refine wp_region_held_drew (S := fun w' => w'.cell? ⟨w.heap.size, 5, none⟩ = some (.slice (some ⟨kb, ko, none⟩) 2 cl) ∧ w'.cell? ⟨kb, ko, none⟩ = some (.int .i64 y.k) ∧ w'.cell? ⟨kb, ko + 1, none⟩ = some (.string y.name) ∧ w'.cell? ⟨kb, ko + 2, none⟩ = some (.string y.text) ∧ w'.cell? ⟨kb, ko + 3, none⟩ = some (.int .i64 y.n) ∧ w'.cell? ⟨kb, ko + 4, none⟩ = some (.slice qm mm cm) ∧ w'.cell? ⟨kb, ko + 5, none⟩ = some (.slice qk mk ck)) (by kernel_rfl) (SS) (fun hHeld => ?_)
  refine tkH (i := 0) (v := ?_) ?_
  try simp only [Act.put, pzz]
  refine tkH (i := 1) (v := ?_) ?_
  try simp only [Act.put, pzz]
  refine tkH (i := 2) (v := ?_) ?_
  try simp only [Act.put, pzz]
  refine tkH (i := 3) (v := ?_) ?_
  try simp only [Act.put, pzz]
  refine tkH (i := 4) (v := ?_) ?_
  try simp only [Act.put, pzz]
  refine tkH (i := 5) (v := ?_) ?_
  try simp only [Act.put, pzz]
  refine tkH (i := 6) (v := ?_) ?_
  try simp only [Act.put, pzz]
  refine tkH (i := 7) (v := ?_) ?_
  try simp only [Act.put, pzz]
  refine tkH (i := 8) (v := ?_) ?_
  try simp only [Act.put, pzz]
  refine wpAnyH_ready (rs := [9]) (by kernel_rfl) (by simp) ?_
  refine AllReadyH.cons rfl (fun K hK => ?_) AllReadyH.nil
  obtain ⟨b5, k0, k1, k2, k3, k4, k5⟩ := id hHeld
  go_simp
  refine (made_any _ y qm mm cm qk mk ck).mono ?_
  rintro e wm ⟨rfl, em⟩
  have HSm := Lib.hid (HS0.out.ext ((Ext.refl _).drew.trans em))
  have b5m := em.cell b5
  have k0m := em.cell k0
  have k1m := em.cell k1
  have k2m := em.cell k2
  have k3m := em.cell k3
  have k4m := em.cell k4
  have k5m := em.cell k5
  clear hHeld
  have hHeld := trivial
  clear em b5 k0 k1 k2 k3 k4 k5
  clear hHeld
  refine hK.out _ _ (⟨b5m, k0m, k1m, k2m, k3m, k4m, k5m⟩) (fun hHeld => ?_)
  clear hK K
  try simp only [Act.put, pzz]
  refine wpAnyH_ready (rs := [10]) (by kernel_rfl) (by simp) ?_
  refine AllReadyH.cons rfl (fun K hK => ?_) AllReadyH.nil
  go_simp
  refine (tinner_any wm T v _ _ (d - 1) y (madeK y.k) HXY.out (HSm.out.node HNY.out) HSm.out.self (by have := HBD.out; rw [HT.out] at this; simp at this ⊢; omega)).mono ?_
  rintro e w1 ⟨⟨_, rfl⟩, v1, S1⟩
  have HS1 := Lib.hid (HSm.out.call S1)
  have b5z := HS1.out.nbox.2.2.2.2.2.1
  have k0z := S1.low' bT k0m
  have k1z := S1.low' bT k1m
  have k2z := S1.low' bT k2m
  have k3z := S1.low' bT k3m
  have k4z := S1.low' bT k4m
  have k5z := S1.low' bT k5m
  clear S1 b5m k0m k1m k2m k3m k4m k5m HSm HNY bT bw bl
  clear hHeld
  refine hK.out _ _ (⟨b5z, k0z, k1z, k2z, k3z, k4z, k5z⟩) (fun hHeld => ?_)
  clear hK K
  try simp only [Act.put, pzz]
  refine wpAnyH_done (by kernel_rfl) ?_ _
  clear b5z k0z k1z k2z k3z k4z k5z
  obtain ⟨b0, b1, b2, b3, b4, b5, bl⟩ := HS1.out.nbox
  go_wp2_with fail
  refine (tkey_any w1 T v1 _ x.name HS1.out.self (by have := HBD.out; rw [HT.out] at this; simp at this ⊢; omega)).mono ?_
  rintro e w2 ⟨⟨_, rfl⟩, v2, S2⟩
  have HS2 := Lib.hid (HS1.out.call S2)
  clear S2
  clear b0 b1 b2 b3 b4 b5 bl
  go_wp2_with fail
  obtain ⟨b0, b1, b2, b3, b4, b5, bl⟩ := HS2.out.nbox
  obtain ⟨kb, ko, qm, mm, cm, qk, mk, ck, hq, bT, bw, k0, k1, k2, k3, k4, k5, hny⟩ := HS2.out.kid1 HK.out (y := z) rfl
  have HNY := Lib.hid hny
  clear hny
  cases hq
  have SS := And.intro b5 (And.intro k0 (And.intro k1 (And.intro k2 (And.intro k3 (And.intro k4 k5)))))
  clear b0 b1 b2 b3 b4 b5 k0 k1 k2 k3 k4 k5
  refine wp_region_held_drew (S := fun w' => w'.cell? ⟨w.heap.size, 5, none⟩ = some (.slice (some ⟨kb, ko, none⟩) 2 cl) ∧ w'.cell? ⟨kb, ko + 6, none⟩ = some (.int .i64 z.k) ∧ w'.cell? ⟨kb, ko + 6 + 1, none⟩ = some (.string z.name) ∧ w'.cell? ⟨kb, ko + 6 + 2, none⟩ = some (.string z.text) ∧ w'.cell? ⟨kb, ko + 6 + 3, none⟩ = some (.int .i64 z.n) ∧ w'.cell? ⟨kb, ko + 6 + 4, none⟩ = some (.slice qm mm cm) ∧ w'.cell? ⟨kb, ko + 6 + 5, none⟩ = some (.slice qk mk ck)) (by kernel_rfl) (SS) (fun hHeld => ?_)
  refine tkH (i := 0) (v := ?_) ?_
  try simp only [Act.put, pzz]
  refine tkH (i := 1) (v := ?_) ?_
  try simp only [Act.put, pzz]
  refine tkH (i := 2) (v := ?_) ?_
  try simp only [Act.put, pzz]
  refine tkH (i := 3) (v := ?_) ?_
  try simp only [Act.put, pzz]
  refine tkH (i := 4) (v := ?_) ?_
  try simp only [Act.put, pzz]
  refine tkH (i := 5) (v := ?_) ?_
  try simp only [Act.put, pzz]
  refine tkH (i := 6) (v := ?_) ?_
  try simp only [Act.put, pzz]
  refine tkH (i := 7) (v := ?_) ?_
  try simp only [Act.put, pzz]
  refine tkH (i := 8) (v := ?_) ?_
  try simp only [Act.put, pzz]
  refine wpAnyH_ready (rs := [9]) (by kernel_rfl) (by simp) ?_
  refine AllReadyH.cons rfl (fun K hK => ?_) AllReadyH.nil
  obtain ⟨b5, k0, k1, k2, k3, k4, k5⟩ := id hHeld
  go_simp
  refine (made_any _ z qm mm cm qk mk ck).mono ?_
  rintro e wm ⟨rfl, em⟩
  have HSm := Lib.hid (HS2.out.ext ((Ext.refl _).drew.trans em))
  have b5m := em.cell b5
  have k0m := em.cell k0
  have k1m := em.cell k1
  have k2m := em.cell k2
  have k3m := em.cell k3
  have k4m := em.cell k4
  have k5m := em.cell k5
  clear hHeld
  have hHeld := trivial
  clear em b5 k0 k1 k2 k3 k4 k5
  clear hHeld
  refine hK.out _ _ (⟨b5m, k0m, k1m, k2m, k3m, k4m, k5m⟩) (fun hHeld => ?_)
  clear hK K
  try simp only [Act.put, pzz]
  refine wpAnyH_ready (rs := [10]) (by kernel_rfl) (by simp) ?_
  refine AllReadyH.cons rfl (fun K hK => ?_) AllReadyH.nil
  go_simp
  refine (tinner_any wm T v2 _ _ (d - 1) z (madeK z.k) HXZ.out (HSm.out.node HNY.out) HSm.out.self (by have := HBD.out; rw [HT.out] at this; simp at this ⊢; omega)).mono ?_
  rintro e w3 ⟨⟨_, rfl⟩, v3, S3⟩
  have HS3 := Lib.hid (HSm.out.call S3)
  have b5z := HS3.out.nbox.2.2.2.2.2.1
  have k0z := S3.low' bT k0m
  have k1z := S3.low' bT k1m
  have k2z := S3.low' bT k2m
  have k3z := S3.low' bT k3m
  have k4z := S3.low' bT k4m
  have k5z := S3.low' bT k5m
  clear S3 b5m k0m k1m k2m k3m k4m k5m HSm HNY bT bw bl
  clear hHeld
  refine hK.out _ _ (⟨b5z, k0z, k1z, k2z, k3z, k4z, k5z⟩) (fun hHeld => ?_)
  clear hK K
  try simp only [Act.put, pzz]
  refine wpAnyH_done (by kernel_rfl) ?_ _
  clear b5z k0z k1z k2z k3z k4z k5z
  go_wp2_with fail
  go_end0
  exact ⟨⟨_, rfl⟩, _, by rw [HT.out]; simpa [List.append_assoc] using HS3.out.nob⟩
 have q1 : (x.name == (⟨#[97, 110, 100]⟩ : ByteArray)) = false := by rw [Bool.eq_false_iff]; exact fun e => hA ((ba_iff _ _).1 e)
 have p1 : (x.name.toList == [97, 110, 100]) = false := by have := q1; rw [ba_beq, Lib.toList_data ⟨#[97, 110, 100]⟩] at this; exact this
 by_cases hO : x.name = ⟨#[111, 114]⟩
 ·have q2 : (x.name == (⟨#[111, 114]⟩ : ByteArray)) = true := (ba_iff _ _).2 hO
  have p2 : (x.name.toList == [111, 114]) = true := by have := q2; rw [ba_beq, Lib.toList_data ⟨#[111, 114]⟩] at this; exact this
  have HO := Lib.hid (show opW x.name = kwW x.name.data.toList by rw [hO]; rfl)
  clear hA hO
  rw [HO.out] at HT
  clear HO
  (try clear q1)
  (try clear q2)
  go_enter Tryz.func153, Tryz.ntmps153
  go_upto_region 28 with (fail)
  have hsz : (w.alloc (ndO x (.slice qn nn cn) (.slice ql 2 cl))).heap.size = w.heap.size + 1 := size_alloc _ _
  clear hsz
  generalize w.alloc (ndO x (.slice qn nn cn) (.slice ql 2 cl)) = W0 at *
  go_wp2_with fail
  obtain ⟨b0, b1, b2, b3, b4, b5, bl⟩ := HS0.out.nbox
  obtain ⟨kb, ko, qm, mm, cm, qk, mk, ck, hq, bT, bw, k0, k1, k2, k3, k4, k5, hny⟩ := HS0.out.kid0 HK.out (y := y) rfl
  have HNY := Lib.hid hny
  clear hny
  cases hq
  have SS := And.intro b5 (And.intro k0 (And.intro k1 (And.intro k2 (And.intro k3 (And.intro k4 k5)))))
  clear b0 b1 b2 b3 b4 b5 k0 k1 k2 k3 k4 k5
  refine wp_region_held_drew (S := fun w' => w'.cell? ⟨w.heap.size, 5, none⟩ = some (.slice (some ⟨kb, ko, none⟩) 2 cl) ∧ w'.cell? ⟨kb, ko, none⟩ = some (.int .i64 y.k) ∧ w'.cell? ⟨kb, ko + 1, none⟩ = some (.string y.name) ∧ w'.cell? ⟨kb, ko + 2, none⟩ = some (.string y.text) ∧ w'.cell? ⟨kb, ko + 3, none⟩ = some (.int .i64 y.n) ∧ w'.cell? ⟨kb, ko + 4, none⟩ = some (.slice qm mm cm) ∧ w'.cell? ⟨kb, ko + 5, none⟩ = some (.slice qk mk ck)) (by kernel_rfl) (SS) (fun hHeld => ?_)
  refine tkH (i := 0) (v := ?_) ?_
  try simp only [Act.put, pzz]
  refine tkH (i := 1) (v := ?_) ?_
  try simp only [Act.put, pzz]
  refine tkH (i := 2) (v := ?_) ?_
  try simp only [Act.put, pzz]
  refine tkH (i := 3) (v := ?_) ?_
  try simp only [Act.put, pzz]
  refine tkH (i := 4) (v := ?_) ?_
  try simp only [Act.put, pzz]
  refine tkH (i := 5) (v := ?_) ?_
  try simp only [Act.put, pzz]
  refine tkH (i := 6) (v := ?_) ?_
  try simp only [Act.put, pzz]
  refine tkH (i := 7) (v := ?_) ?_
  try simp only [Act.put, pzz]
  refine tkH (i := 8) (v := ?_) ?_
  try simp only [Act.put, pzz]
  refine wpAnyH_ready (rs := [9]) (by kernel_rfl) (by simp) ?_
  refine AllReadyH.cons rfl (fun K hK => ?_) AllReadyH.nil
  obtain ⟨b5, k0, k1, k2, k3, k4, k5⟩ := id hHeld
  go_simp
  refine (made_any _ y qm mm cm qk mk ck).mono ?_
  rintro e wm ⟨rfl, em⟩
  have HSm := Lib.hid (HS0.out.ext ((Ext.refl _).drew.trans em))
  have b5m := em.cell b5
  have k0m := em.cell k0
  have k1m := em.cell k1
  have k2m := em.cell k2
  have k3m := em.cell k3
  have k4m := em.cell k4
  have k5m := em.cell k5
  clear hHeld
  have hHeld := trivial
  clear em b5 k0 k1 k2 k3 k4 k5
  clear hHeld
  refine hK.out _ _ (⟨b5m, k0m, k1m, k2m, k3m, k4m, k5m⟩) (fun hHeld => ?_)
  clear hK K
  try simp only [Act.put, pzz]
  refine wpAnyH_ready (rs := [10]) (by kernel_rfl) (by simp) ?_
  refine AllReadyH.cons rfl (fun K hK => ?_) AllReadyH.nil
  go_simp
  refine (tinner_any wm T v _ _ (d - 1) y (madeK y.k) HXY.out (HSm.out.node HNY.out) HSm.out.self (by have := HBD.out; rw [HT.out] at this; simp at this ⊢; omega)).mono ?_
  rintro e w1 ⟨⟨_, rfl⟩, v1, S1⟩
  have HS1 := Lib.hid (HSm.out.call S1)
  have b5z := HS1.out.nbox.2.2.2.2.2.1
  have k0z := S1.low' bT k0m
  have k1z := S1.low' bT k1m
  have k2z := S1.low' bT k2m
  have k3z := S1.low' bT k3m
  have k4z := S1.low' bT k4m
  have k5z := S1.low' bT k5m
  clear S1 b5m k0m k1m k2m k3m k4m k5m HSm HNY bT bw bl
  clear hHeld
  refine hK.out _ _ (⟨b5z, k0z, k1z, k2z, k3z, k4z, k5z⟩) (fun hHeld => ?_)
  clear hK K
  try simp only [Act.put, pzz]
  refine wpAnyH_done (by kernel_rfl) ?_ _
  clear b5z k0z k1z k2z k3z k4z k5z
  obtain ⟨b0, b1, b2, b3, b4, b5, bl⟩ := HS1.out.nbox
  go_wp2_with fail
  refine (tkey_any w1 T v1 _ x.name HS1.out.self (by have := HBD.out; rw [HT.out] at this; simp at this ⊢; omega)).mono ?_
  rintro e w2 ⟨⟨_, rfl⟩, v2, S2⟩
  have HS2 := Lib.hid (HS1.out.call S2)
  clear S2
  clear b0 b1 b2 b3 b4 b5 bl
  go_wp2_with fail
  obtain ⟨b0, b1, b2, b3, b4, b5, bl⟩ := HS2.out.nbox
  obtain ⟨kb, ko, qm, mm, cm, qk, mk, ck, hq, bT, bw, k0, k1, k2, k3, k4, k5, hny⟩ := HS2.out.kid1 HK.out (y := z) rfl
  have HNY := Lib.hid hny
  clear hny
  cases hq
  have SS := And.intro b5 (And.intro k0 (And.intro k1 (And.intro k2 (And.intro k3 (And.intro k4 k5)))))
  clear b0 b1 b2 b3 b4 b5 k0 k1 k2 k3 k4 k5
  refine wp_region_held_drew (S := fun w' => w'.cell? ⟨w.heap.size, 5, none⟩ = some (.slice (some ⟨kb, ko, none⟩) 2 cl) ∧ w'.cell? ⟨kb, ko + 6, none⟩ = some (.int .i64 z.k) ∧ w'.cell? ⟨kb, ko + 6 + 1, none⟩ = some (.string z.name) ∧ w'.cell? ⟨kb, ko + 6 + 2, none⟩ = some (.string z.text) ∧ w'.cell? ⟨kb, ko + 6 + 3, none⟩ = some (.int .i64 z.n) ∧ w'.cell? ⟨kb, ko + 6 + 4, none⟩ = some (.slice qm mm cm) ∧ w'.cell? ⟨kb, ko + 6 + 5, none⟩ = some (.slice qk mk ck)) (by kernel_rfl) (SS) (fun hHeld => ?_)
  refine tkH (i := 0) (v := ?_) ?_
  try simp only [Act.put, pzz]
  refine tkH (i := 1) (v := ?_) ?_
  try simp only [Act.put, pzz]
  refine tkH (i := 2) (v := ?_) ?_
  try simp only [Act.put, pzz]
  refine tkH (i := 3) (v := ?_) ?_
  try simp only [Act.put, pzz]
  refine tkH (i := 4) (v := ?_) ?_
  try simp only [Act.put, pzz]
  refine tkH (i := 5) (v := ?_) ?_
  try simp only [Act.put, pzz]
  refine tkH (i := 6) (v := ?_) ?_
  try simp only [Act.put, pzz]
  refine tkH (i := 7) (v := ?_) ?_
  try simp only [Act.put, pzz]
  refine tkH (i := 8) (v := ?_) ?_
  try simp only [Act.put, pzz]
  refine wpAnyH_ready (rs := [9]) (by kernel_rfl) (by simp) ?_
  refine AllReadyH.cons rfl (fun K hK => ?_) AllReadyH.nil
  obtain ⟨b5, k0, k1, k2, k3, k4, k5⟩ := id hHeld
  go_simp
  refine (made_any _ z qm mm cm qk mk ck).mono ?_
  rintro e wm ⟨rfl, em⟩
  have HSm := Lib.hid (HS2.out.ext ((Ext.refl _).drew.trans em))
  have b5m := em.cell b5
  have k0m := em.cell k0
  have k1m := em.cell k1
  have k2m := em.cell k2
  have k3m := em.cell k3
  have k4m := em.cell k4
  have k5m := em.cell k5
  clear hHeld
  have hHeld := trivial
  clear em b5 k0 k1 k2 k3 k4 k5
  clear hHeld
  refine hK.out _ _ (⟨b5m, k0m, k1m, k2m, k3m, k4m, k5m⟩) (fun hHeld => ?_)
  clear hK K
  try simp only [Act.put, pzz]
  refine wpAnyH_ready (rs := [10]) (by kernel_rfl) (by simp) ?_
  refine AllReadyH.cons rfl (fun K hK => ?_) AllReadyH.nil
  go_simp
  refine (tinner_any wm T v2 _ _ (d - 1) z (madeK z.k) HXZ.out (HSm.out.node HNY.out) HSm.out.self (by have := HBD.out; rw [HT.out] at this; simp at this ⊢; omega)).mono ?_
  rintro e w3 ⟨⟨_, rfl⟩, v3, S3⟩
  have HS3 := Lib.hid (HSm.out.call S3)
  have b5z := HS3.out.nbox.2.2.2.2.2.1
  have k0z := S3.low' bT k0m
  have k1z := S3.low' bT k1m
  have k2z := S3.low' bT k2m
  have k3z := S3.low' bT k3m
  have k4z := S3.low' bT k4m
  have k5z := S3.low' bT k5m
  clear S3 b5m k0m k1m k2m k3m k4m k5m HSm HNY bT bw bl
  clear hHeld
  refine hK.out _ _ (⟨b5z, k0z, k1z, k2z, k3z, k4z, k5z⟩) (fun hHeld => ?_)
  clear hK K
  try simp only [Act.put, pzz]
  refine wpAnyH_done (by kernel_rfl) ?_ _
  clear b5z k0z k1z k2z k3z k4z k5z
  go_wp2_with fail
  go_end0
  exact ⟨⟨_, rfl⟩, _, by rw [HT.out]; simpa [List.append_assoc] using HS3.out.nob⟩
 have q2 : (x.name == (⟨#[111, 114]⟩ : ByteArray)) = false := by rw [Bool.eq_false_iff]; exact fun e => hO ((ba_iff _ _).1 e)
 have p2 : (x.name.toList == [111, 114]) = false := by have := q2; rw [ba_beq, Lib.toList_data ⟨#[111, 114]⟩] at this; exact this
 have HO := Lib.hid (show opW x.name = sgW x.name.data.toList by
  unfold opW
  have e1 : ¬ x.name.data.toList = tAnd := fun e => hA (by have := congrArg List.toArray e; rw [Array.toArray_toList] at this; exact congrArg ByteArray.mk this)
  have e2 : ¬ x.name.data.toList = tOr := fun e => hO (by have := congrArg List.toArray e; rw [Array.toArray_toList] at this; exact congrArg ByteArray.mk this)
  rw [if_neg (by rw [Bool.or_eq_true, beq_iff_eq, beq_iff_eq]; exact fun h => h.elim e1 e2)])
 clear hA hO
 rw [HO.out] at HT
 clear HO
 (try clear q1)
 (try clear q2)
 go_enter Tryz.func153, Tryz.ntmps153
 go_upto_region 28 with (fail)
 have hsz : (w.alloc (ndO x (.slice qn nn cn) (.slice ql 2 cl))).heap.size = w.heap.size + 1 := size_alloc _ _
 clear hsz
 generalize w.alloc (ndO x (.slice qn nn cn) (.slice ql 2 cl)) = W0 at *
 go_wp2_with fail
 obtain ⟨b0, b1, b2, b3, b4, b5, bl⟩ := HS0.out.nbox
 obtain ⟨kb, ko, qm, mm, cm, qk, mk, ck, hq, bT, bw, k0, k1, k2, k3, k4, k5, hny⟩ := HS0.out.kid0 HK.out (y := y) rfl
 have HNY := Lib.hid hny
 clear hny
 cases hq
 have SS := And.intro b5 (And.intro k0 (And.intro k1 (And.intro k2 (And.intro k3 (And.intro k4 k5)))))
 clear b0 b1 b2 b3 b4 b5 k0 k1 k2 k3 k4 k5
 refine wp_region_held_drew (S := fun w' => w'.cell? ⟨w.heap.size, 5, none⟩ = some (.slice (some ⟨kb, ko, none⟩) 2 cl) ∧ w'.cell? ⟨kb, ko, none⟩ = some (.int .i64 y.k) ∧ w'.cell? ⟨kb, ko + 1, none⟩ = some (.string y.name) ∧ w'.cell? ⟨kb, ko + 2, none⟩ = some (.string y.text) ∧ w'.cell? ⟨kb, ko + 3, none⟩ = some (.int .i64 y.n) ∧ w'.cell? ⟨kb, ko + 4, none⟩ = some (.slice qm mm cm) ∧ w'.cell? ⟨kb, ko + 5, none⟩ = some (.slice qk mk ck)) (by kernel_rfl) (SS) (fun hHeld => ?_)
 refine tkH (i := 0) (v := ?_) ?_
 try simp only [Act.put, pzz]
 refine tkH (i := 1) (v := ?_) ?_
 try simp only [Act.put, pzz]
 refine tkH (i := 2) (v := ?_) ?_
 try simp only [Act.put, pzz]
 refine tkH (i := 3) (v := ?_) ?_
 try simp only [Act.put, pzz]
 refine tkH (i := 4) (v := ?_) ?_
 try simp only [Act.put, pzz]
 refine tkH (i := 5) (v := ?_) ?_
 try simp only [Act.put, pzz]
 refine tkH (i := 6) (v := ?_) ?_
 try simp only [Act.put, pzz]
 refine tkH (i := 7) (v := ?_) ?_
 try simp only [Act.put, pzz]
 refine tkH (i := 8) (v := ?_) ?_
 try simp only [Act.put, pzz]
 refine wpAnyH_ready (rs := [9]) (by kernel_rfl) (by simp) ?_
 refine AllReadyH.cons rfl (fun K hK => ?_) AllReadyH.nil
 obtain ⟨b5, k0, k1, k2, k3, k4, k5⟩ := id hHeld
 go_simp
 refine (made_any _ y qm mm cm qk mk ck).mono ?_
 rintro e wm ⟨rfl, em⟩
 have HSm := Lib.hid (HS0.out.ext ((Ext.refl _).drew.trans em))
 have b5m := em.cell b5
 have k0m := em.cell k0
 have k1m := em.cell k1
 have k2m := em.cell k2
 have k3m := em.cell k3
 have k4m := em.cell k4
 have k5m := em.cell k5
 clear hHeld
 have hHeld := trivial
 clear em b5 k0 k1 k2 k3 k4 k5
 clear hHeld
 refine hK.out _ _ (⟨b5m, k0m, k1m, k2m, k3m, k4m, k5m⟩) (fun hHeld => ?_)
 clear hK K
 try simp only [Act.put, pzz]
 refine wpAnyH_ready (rs := [10]) (by kernel_rfl) (by simp) ?_
 refine AllReadyH.cons rfl (fun K hK => ?_) AllReadyH.nil
 go_simp
 refine (tinner_any wm T v _ _ (d - 1) y (madeK y.k) HXY.out (HSm.out.node HNY.out) HSm.out.self (by have := HBD.out; rw [HT.out] at this; simp at this ⊢; omega)).mono ?_
 rintro e w1 ⟨⟨_, rfl⟩, v1, S1⟩
 have HS1 := Lib.hid (HSm.out.call S1)
 have b5z := HS1.out.nbox.2.2.2.2.2.1
 have k0z := S1.low' bT k0m
 have k1z := S1.low' bT k1m
 have k2z := S1.low' bT k2m
 have k3z := S1.low' bT k3m
 have k4z := S1.low' bT k4m
 have k5z := S1.low' bT k5m
 clear S1 b5m k0m k1m k2m k3m k4m k5m HSm HNY bT bw bl
 clear hHeld
 refine hK.out _ _ (⟨b5z, k0z, k1z, k2z, k3z, k4z, k5z⟩) (fun hHeld => ?_)
 clear hK K
 try simp only [Act.put, pzz]
 refine wpAnyH_done (by kernel_rfl) ?_ _
 clear b5z k0z k1z k2z k3z k4z k5z
 obtain ⟨b0, b1, b2, b3, b4, b5, bl⟩ := HS1.out.nbox
 go_wp2_with fail
 refine (tsign1 w1 T v1 _ x.name HS1.out.self (by have := HBD.out; rw [HT.out] at this; simp at this ⊢; omega)).mono ?_
 rintro e w2 ⟨⟨_, rfl⟩, v2, S2⟩
 have HS2 := Lib.hid (HS1.out.call S2)
 clear S2
 clear b0 b1 b2 b3 b4 b5 bl
 go_wp2_with fail
 obtain ⟨b0, b1, b2, b3, b4, b5, bl⟩ := HS2.out.nbox
 obtain ⟨kb, ko, qm, mm, cm, qk, mk, ck, hq, bT, bw, k0, k1, k2, k3, k4, k5, hny⟩ := HS2.out.kid1 HK.out (y := z) rfl
 have HNY := Lib.hid hny
 clear hny
 cases hq
 have SS := And.intro b5 (And.intro k0 (And.intro k1 (And.intro k2 (And.intro k3 (And.intro k4 k5)))))
 clear b0 b1 b2 b3 b4 b5 k0 k1 k2 k3 k4 k5
 refine wp_region_held_drew (S := fun w' => w'.cell? ⟨w.heap.size, 5, none⟩ = some (.slice (some ⟨kb, ko, none⟩) 2 cl) ∧ w'.cell? ⟨kb, ko + 6, none⟩ = some (.int .i64 z.k) ∧ w'.cell? ⟨kb, ko + 6 + 1, none⟩ = some (.string z.name) ∧ w'.cell? ⟨kb, ko + 6 + 2, none⟩ = some (.string z.text) ∧ w'.cell? ⟨kb, ko + 6 + 3, none⟩ = some (.int .i64 z.n) ∧ w'.cell? ⟨kb, ko + 6 + 4, none⟩ = some (.slice qm mm cm) ∧ w'.cell? ⟨kb, ko + 6 + 5, none⟩ = some (.slice qk mk ck)) (by kernel_rfl) (SS) (fun hHeld => ?_)
 refine tkH (i := 0) (v := ?_) ?_
 try simp only [Act.put, pzz]
 refine tkH (i := 1) (v := ?_) ?_
 try simp only [Act.put, pzz]
 refine tkH (i := 2) (v := ?_) ?_
 try simp only [Act.put, pzz]
 refine tkH (i := 3) (v := ?_) ?_
 try simp only [Act.put, pzz]
 refine tkH (i := 4) (v := ?_) ?_
 try simp only [Act.put, pzz]
 refine tkH (i := 5) (v := ?_) ?_
 try simp only [Act.put, pzz]
 refine tkH (i := 6) (v := ?_) ?_
 try simp only [Act.put, pzz]
 refine tkH (i := 7) (v := ?_) ?_
 try simp only [Act.put, pzz]
 refine tkH (i := 8) (v := ?_) ?_
 try simp only [Act.put, pzz]
 refine wpAnyH_ready (rs := [9]) (by kernel_rfl) (by simp) ?_
 refine AllReadyH.cons rfl (fun K hK => ?_) AllReadyH.nil
 obtain ⟨b5, k0, k1, k2, k3, k4, k5⟩ := id hHeld
 go_simp
 refine (made_any _ z qm mm cm qk mk ck).mono ?_
 rintro e wm ⟨rfl, em⟩
 have HSm := Lib.hid (HS2.out.ext ((Ext.refl _).drew.trans em))
 have b5m := em.cell b5
 have k0m := em.cell k0
 have k1m := em.cell k1
 have k2m := em.cell k2
 have k3m := em.cell k3
 have k4m := em.cell k4
 have k5m := em.cell k5
 clear hHeld
 have hHeld := trivial
 clear em b5 k0 k1 k2 k3 k4 k5
 clear hHeld
 refine hK.out _ _ (⟨b5m, k0m, k1m, k2m, k3m, k4m, k5m⟩) (fun hHeld => ?_)
 clear hK K
 try simp only [Act.put, pzz]
 refine wpAnyH_ready (rs := [10]) (by kernel_rfl) (by simp) ?_
 refine AllReadyH.cons rfl (fun K hK => ?_) AllReadyH.nil
 go_simp
 refine (tinner_any wm T v2 _ _ (d - 1) z (madeK z.k) HXZ.out (HSm.out.node HNY.out) HSm.out.self (by have := HBD.out; rw [HT.out] at this; simp at this ⊢; omega)).mono ?_
 rintro e w3 ⟨⟨_, rfl⟩, v3, S3⟩
 have HS3 := Lib.hid (HSm.out.call S3)
 have b5z := HS3.out.nbox.2.2.2.2.2.1
 have k0z := S3.low' bT k0m
 have k1z := S3.low' bT k1m
 have k2z := S3.low' bT k2m
 have k3z := S3.low' bT k3m
 have k4z := S3.low' bT k4m
 have k5z := S3.low' bT k5m
 clear S3 b5m k0m k1m k2m k3m k4m k5m HSm HNY bT bw bl
 clear hHeld
 refine hK.out _ _ (⟨b5z, k0z, k1z, k2z, k3z, k4z, k5z⟩) (fun hHeld => ?_)
 clear hK K
 try simp only [Act.put, pzz]
 refine wpAnyH_done (by kernel_rfl) ?_ _
 clear b5z k0z k1z k2z k3z k4z k5z
 go_wp2_with fail
 go_end0
 exact ⟨⟨_, rfl⟩, _, by rw [HT.out]; simpa [List.append_assoc] using HS3.out.nob⟩
end Go.Proofs.YtkbcnacjaakleaaGreatDoor
