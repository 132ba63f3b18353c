/- The teller: a statement. The teller: for; every statement and block. -/
import Derived.Test.YtkbcnacjaakleaaGreatDoorYT4
set_option maxRecDepth 100000
set_option maxHeartbeats 32000000
set_option linter.unusedVariables false
set_option linter.unusedSimpArgs false
namespace Go.Proofs.YtkbcnacjaakleaaGreatDoor
open Go.RowKit

theorem TG.two {T : Nat} {w : World} {v : Value} {l : List Wd} (h : TG T w v [] w v l) (o1 o2 : Obj) : TG T w v [(w.heap.size + 1, o2), (w.heap.size, o1)] ((w.alloc o1).alloc o2) v l := by
 have := (h.newK o1).newK o2
 rw [size_alloc] at this
 exact this
theorem TG.sbox {T : Nat} {w0 W : World} {v0 v : Value} {l : List Wd} {b : Nat} {x : Nd} {nv lv : Value} (h : TG T w0 v0 [(b + 1, ndO x nv lv), (b, .cells #[.pointer (some ⟨T, 0, none⟩)] 74)] W v l) :
  W.cell? ⟨b, 0, none⟩ = some (.pointer (some ⟨T, 0, none⟩)) ∧ W.cell? ⟨b + 1, 0, none⟩ = some (.int .i64 x.k) ∧ W.cell? ⟨b + 1, 1, none⟩ = some (.string x.name) ∧ W.cell? ⟨b + 1, 2, none⟩ = some (.string x.text) ∧ W.cell? ⟨b + 1, 3, none⟩ = some (.int .i64 x.n) ∧ W.cell? ⟨b + 1, 4, none⟩ = some nv ∧ W.cell? ⟨b + 1, 5, none⟩ = some lv ∧ b + 1 < W.heap.size := by
 have hB : Blk W b 74 #[.pointer (some ⟨T, 0, none⟩)] := (h.box _ (List.mem_cons_of_mem _ (List.mem_cons_self ..))).2.1
 exact ⟨hB.cell 0, h.nbox⟩
theorem KidsAt.front {ok : Nat → Prop} {w : World} {d : Nat} {q : Option Addr} {n c : Nat} {l : List Nd} {b : Nd} (h : KidsAt ok w d (.slice q n c) (l ++ [b])) : n = l.length + 1 ∧ l.length ≤ c ∧ KidsAt ok w d (.slice q l.length c) l := by
 cases d with
 | zero => obtain ⟨h, _⟩ := h; simp at h
 | succ d =>
  obtain ⟨q', c', e, hq⟩ := h
  injection e with e1 e2 e3
  subst e1 e3
  obtain ⟨b', o, e4, hb, hc, hx⟩ := hq (by simp)
  refine ⟨by rw [e2]; simp, by simp at hc; omega, q, c, rfl, fun h0 => ⟨b', o, e4, hb, by simp at hc; omega, fun i hi => ?_⟩⟩
  have := hx i (by simp; omega)
  have e5 : (l ++ [b])[i]'(by simp; omega) = l[i] := List.getElem_append_left hi
  rw [e5] at this
  exact this
theorem tstm_8 (w : World) (T : Nat) (v : Value) (l : List Wd) (u : Value) (d : Nat) (x  : Nd) (hx : x.k = 8) (hn : NodeAt (· < T) w d u x) (h : TG T w v [] w v l) (hb : l.length + (tellN x).length ≤ 1000000000) :
  Calls Tryz.prog 78 #[.pointer (some ⟨T, 0, none⟩), u] w (TellE T w v l (tellN x)) := by
 have hmf : ∀ (fn : Fn) (first cap : Array Value) (w : World), (Instr.makeFunc fn first cap).run Tryz.prog w = .ok (.func fn first cap) w := fun _ _ _ _ => rfl
 have HBD := Lib.hid hb
 have HND := Lib.hid hn
 have HT := Lib.hid (show tellN x = [kwW tBreak] by rw [tellN_eq]; simp [hx, tellK])
 obtain ⟨qn, cn, ql, cl, rfl, htx, hk⟩ := hn.parts
 have l0 := h.blk.lt
 have HTX := Lib.hid htx
 obtain ⟨kn, hkn⟩ : ∃ kn, x.kids.length = kn := ⟨_, rfl⟩
 rw [hkn] at hk HND ⊢
 have HK := Lib.hid hk
 obtain ⟨nn, hnn⟩ : ∃ nn, x.names.length = nn := ⟨_, rfl⟩
 rw [hnn] at HTX HND ⊢
 have HS0 := Lib.hid (h.two (.cells #[.pointer (some ⟨T, 0, none⟩)] 74) (ndO x (.slice qn nn cn) (.slice ql kn cl)))
 clear hn h hb hk htx hkn hnn
 have e1 : (x.k == 1) = false := by rw [hx]; rfl
 have e2 : (x.k == 2) = false := by rw [hx]; rfl
 have e3 : (x.k == 3) = false := by rw [hx]; rfl
 have e4 : (x.k == 4) = false := by rw [hx]; rfl
 have e5 : (x.k == 5) = false := by rw [hx]; rfl
 have e6 : (x.k == 6) = false := by rw [hx]; rfl
 have e7 : (x.k == 7) = false := by rw [hx]; rfl
 have e8 : (x.k == 8) = true := by rw [hx]; rfl
 clear hx
 go_enter Tryz.func78, Tryz.ntmps78
 go_wp2_with fail
 have hsz : ((w.alloc (.cells #[.pointer (some ⟨T, 0, none⟩)] 74)).alloc (ndO x (.slice qn nn cn) (.slice ql kn cl))).heap.size = w.heap.size + 1 + 1 := by rw [size_alloc, size_alloc]
 generalize (w.alloc (.cells #[.pointer (some ⟨T, 0, none⟩)] 74)).alloc (ndO x (.slice qn nn cn) (.slice ql kn cl)) = W0 at *
 refine (tkey_any W0 T v _ ⟨#[98, 114, 101, 97, 107]⟩ HS0.out.self (by have := HBD.out; rw [HT.out] at this; simp at this ⊢; omega)).mono ?_
 rintro e w1 ⟨⟨_, rfl⟩, v1, S1⟩
 have HS1 := Lib.hid (HS0.out.call S1)
 clear S1
 go_wp2_with fail
 go_end0
 exact ⟨⟨_, rfl⟩, _, by rw [HT.out]; simpa [List.append_assoc, sgW, kwW, nmW, innerT] using HS1.out.nob⟩
theorem tstm_7 (w : World) (T : Nat) (v : Value) (l : List Wd) (u : Value) (d : Nat) (x  : Nd) (hx : x.k = 7) (hX : ∀ y ∈ x.kids, XC (d - 1) y) (hs : x.kids.length ≤ 140737488355328) (hn : NodeAt (· < T) w d u x) (h : TG T w v [] w v l) (hb : l.length + (tellN x).length ≤ 1000000000) :
  Calls Tryz.prog 78 #[.pointer (some ⟨T, 0, none⟩), u] w (TellE T w v l (tellN x)) := by
 have hmf : ∀ (fn : Fn) (first cap : Array Value) (w : World), (Instr.makeFunc fn first cap).run Tryz.prog w = .ok (.func fn first cap) w := fun _ _ _ _ => rfl
 have HBD := Lib.hid hb
 have HND := Lib.hid hn
 have HT := Lib.hid (show tellN x = kwW tReturn :: commaT (x.kids.map tellN) by rw [tellN_eq]; simp [hx, tellK])
 obtain ⟨qn, cn, ql, cl, rfl, htx, hk⟩ := hn.parts
 have l0 := h.blk.lt
 have HTX := Lib.hid htx
 obtain ⟨kn, hkn⟩ : ∃ kn, x.kids.length = kn := ⟨_, rfl⟩
 rw [hkn] at hk HND ⊢
 have HK := Lib.hid hk
 obtain ⟨nn, hnn⟩ : ∃ nn, x.names.length = nn := ⟨_, rfl⟩
 rw [hnn] at HTX HND ⊢
 have HX := Lib.hid hX
 have HKL := Lib.hid hs
 have HS0 := Lib.hid (h.two (.cells #[.pointer (some ⟨T, 0, none⟩)] 74) (ndO x (.slice qn nn cn) (.slice ql kn cl)))
 clear hn h hb hk htx hkn hnn hX hs
 have e1 : (x.k == 1) = false := by rw [hx]; rfl
 have e2 : (x.k == 2) = false := by rw [hx]; rfl
 have e3 : (x.k == 3) = false := by rw [hx]; rfl
 have e4 : (x.k == 4) = false := by rw [hx]; rfl
 have e5 : (x.k == 5) = false := by rw [hx]; rfl
 have e6 : (x.k == 6) = false := by rw [hx]; rfl
 have e7 : (x.k == 7) = true := by rw [hx]; rfl
 clear hx
 go_enter Tryz.func78, Tryz.ntmps78
 go_wp2_with fail
 have hsz : ((w.alloc (.cells #[.pointer (some ⟨T, 0, none⟩)] 74)).alloc (ndO x (.slice qn nn cn) (.slice ql kn cl))).heap.size = w.heap.size + 1 + 1 := by rw [size_alloc, size_alloc]
 generalize (w.alloc (.cells #[.pointer (some ⟨T, 0, none⟩)] 74)).alloc (ndO x (.slice qn nn cn) (.slice ql kn cl)) = W0 at *
 refine (tkey_any W0 T v _ ⟨#[114, 101, 116, 117, 114, 110]⟩ HS0.out.self (by have := HBD.out; rw [HT.out] at this; simp at this ⊢; omega)).mono ?_
 rintro e w1 ⟨⟨_, rfl⟩, v1, S1⟩
 have HS1 := Lib.hid (HS0.out.call S1)
 clear S1
 obtain ⟨t0, b0, b1, b2, b3, b4, b5, bl⟩ := HS1.out.sbox
 have bl2 : w.heap.size < w1.heap.size := by omega
 go_wp2_with fail
 refine (tlist_any w1 T v1 _ _ d x.kids HX.out (HS1.out.kids HK.out) HS1.out.self HKL.out (by have := HBD.out; rw [HT.out] at this; simp at this ⊢; omega)).mono ?_
 rintro e w2 ⟨⟨_, rfl⟩, v2, S2⟩
 have HS2 := Lib.hid (HS1.out.call S2)
 clear S2
 clear t0 b0 b1 b2 b3 b4 b5 bl bl2
 go_wp2_with fail
 go_end0
 exact ⟨⟨_, rfl⟩, _, by rw [HT.out]; simpa [List.append_assoc, sgW, kwW, nmW, innerT] using HS2.out.nob⟩
theorem tstm_17 (w : World) (T : Nat) (v : Value) (l : List Wd) (u : Value) (d : Nat) (x  : Nd) (hx : x.k = 17) (hX : XC d x) (hn : NodeAt (· < T) w d u x) (h : TG T w v [] w v l) (hb : l.length + (tellN x).length ≤ 1000000000) :
  Calls Tryz.prog 78 #[.pointer (some ⟨T, 0, none⟩), u] w (TellE T w v l (tellN x)) := by
 have hmf : ∀ (fn : Fn) (first cap : Array Value) (w : World), (Instr.makeFunc fn first cap).run Tryz.prog w = .ok (.func fn first cap) w := fun _ _ _ _ => rfl
 have HBD := Lib.hid hb
 have HND := Lib.hid hn
 obtain ⟨qn, cn, ql, cl, rfl, htx, hk⟩ := hn.parts
 have l0 := h.blk.lt
 have HX := Lib.hid hX
 generalize x.names.length = nn at *
 obtain ⟨kn, hkn⟩ : ∃ kn, x.kids.length = kn := ⟨_, rfl⟩
 rw [hkn] at HND ⊢
 have HS0 := Lib.hid (h.two (.cells #[.pointer (some ⟨T, 0, none⟩)] 74) (ndO x (.slice qn nn cn) (.slice ql kn cl)))
 clear hn h hb hk htx hX hkn
 have e1 : (x.k == 1) = false := by rw [hx]; rfl
 have e2 : (x.k == 2) = false := by rw [hx]; rfl
 have e3 : (x.k == 3) = false := by rw [hx]; rfl
 have e4 : (x.k == 4) = false := by rw [hx]; rfl
 have e5 : (x.k == 5) = false := by rw [hx]; rfl
 have e6 : (x.k == 6) = false := by rw [hx]; rfl
 have e7 : (x.k == 7) = false := by rw [hx]; rfl
 have e8 : (x.k == 8) = false := by rw [hx]; rfl
 have e9 : (x.k == 9) = false := by rw [hx]; rfl
 clear hx
 go_enter Tryz.func78, Tryz.ntmps78
 go_wp2_with fail
 have hsz : ((w.alloc (.cells #[.pointer (some ⟨T, 0, none⟩)] 74)).alloc (ndO x (.slice qn nn cn) (.slice ql kn cl))).heap.size = w.heap.size + 1 + 1 := by rw [size_alloc, size_alloc]
 generalize (w.alloc (.cells #[.pointer (some ⟨T, 0, none⟩)] 74)).alloc (ndO x (.slice qn nn cn) (.slice ql kn cl)) = W0 at *
 refine (HX.out W0 T v _ _ (HS0.out.node HND.out) HS0.out.self HBD.out).mono ?_
 rintro e w1 ⟨⟨_, rfl⟩, v1, S1⟩
 have HS1 := Lib.hid (HS0.out.call S1)
 clear S1
 go_wp2_with fail
 go_end0
 exact ⟨⟨_, rfl⟩, _, HS1.out.nob⟩
theorem tstm_4 (w : World) (T : Nat) (v : Value) (l : List Wd) (u : Value) (d : Nat) (x  : Nd) (hx : x.k = 4) (hbr : BrOk x.kids) (h2 : 2 ≤ x.kids.length) (hX : ∀ y ∈ x.kids, exprK y.k = true → XC (d - 1) y) (hB : ∀ y ∈ x.kids, y.k = 0 → BC (d - 1) y) (hs : x.kids.length ≤ 140737488355328) (hn : NodeAt (· < T) w d u x) (h : TG T w v [] w v l) (hb : l.length + (tellN x).length ≤ 1000000000) :
  Calls Tryz.prog 78 #[.pointer (some ⟨T, 0, none⟩), u] w (TellE T w v l (tellN x)) := by
 have hmf : ∀ (fn : Fn) (first cap : Array Value) (w : World), (Instr.makeFunc fn first cap).run Tryz.prog w = .ok (.func fn first cap) w := fun _ _ _ _ => rfl
 have HBD := Lib.hid hb
 have HND := Lib.hid hn
 have HT := Lib.hid (show tellN x = ifT (x.kids.map tellN) by rw [tellN_eq]; simp [hx, tellK])
 obtain ⟨qn, cn, ql, cl, rfl, htx, hk⟩ := hn.parts
 have l0 := h.blk.lt
 have HTX := Lib.hid htx
 obtain ⟨kn, hkn⟩ : ∃ kn, x.kids.length = kn := ⟨_, rfl⟩
 rw [hkn] at hk HND ⊢
 have HK := Lib.hid hk
 obtain ⟨nn, hnn⟩ : ∃ nn, x.names.length = nn := ⟨_, rfl⟩
 rw [hnn] at HTX HND ⊢
 have HX := Lib.hid hX
 have HBR := Lib.hid hbr
 have HLE := Lib.hid h2
 have HBX := Lib.hid hB
 have HKL := Lib.hid hs
 have HS0 := Lib.hid (h.two (.cells #[.pointer (some ⟨T, 0, none⟩)] 74) (ndO x (.slice qn nn cn) (.slice ql kn cl)))
 clear hn h hb hk htx hkn hnn hX hs hB hbr h2
 have e1 : (x.k == 1) = false := by rw [hx]; rfl
 have e2 : (x.k == 2) = false := by rw [hx]; rfl
 have e3 : (x.k == 3) = false := by rw [hx]; rfl
 have e4 : (x.k == 4) = true := by rw [hx]; rfl
 clear hx
 go_enter Tryz.func78, Tryz.ntmps78
 go_wp2_with fail
 have hsz : ((w.alloc (.cells #[.pointer (some ⟨T, 0, none⟩)] 74)).alloc (ndO x (.slice qn nn cn) (.slice ql kn cl))).heap.size = w.heap.size + 1 + 1 := by rw [size_alloc, size_alloc]
 generalize (w.alloc (.cells #[.pointer (some ⟨T, 0, none⟩)] 74)).alloc (ndO x (.slice qn nn cn) (.slice ql kn cl)) = W0 at *
 refine (tbranch_any W0 T v _ _ d x.kids HBR.out HLE.out HX.out HBX.out (HS0.out.kids HK.out) HS0.out.self HKL.out (by have := HBD.out; rw [HT.out] at this; simp at this ⊢; omega)).mono ?_
 rintro e w1 ⟨⟨_, rfl⟩, v1, S1⟩
 have HS1 := Lib.hid (HS0.out.call S1)
 clear S1
 go_wp2_with fail
 go_end0
 exact ⟨⟨_, rfl⟩, _, by rw [HT.out]; simpa [List.append_assoc, sgW, kwW, nmW, innerT] using HS1.out.nob⟩
theorem tstm_1a (w : World) (T : Nat) (v : Value) (l : List Wd) (u : Value) (d : Nat) (x  : Nd) (hx : x.k = 1) (he : x.kids = []) (hs : x.kids.length ≤ 140737488355328) (hns : x.names.length ≤ 9000000000000) (hnl : l.length + 2 * x.names.length + 1 ≤ 1000000001) (hn : NodeAt (· < T) w d u x) (h : TG T w v [] w v l) (hb : l.length + (tellN x).length ≤ 1000000000) :
  Calls Tryz.prog 78 #[.pointer (some ⟨T, 0, none⟩), u] w (TellE T w v l (tellN x)) := by
 have hmf : ∀ (fn : Fn) (first cap : Array Value) (w : World), (Instr.makeFunc fn first cap).run Tryz.prog w = .ok (.func fn first cap) w := fun _ _ _ _ => rfl
 have HBD := Lib.hid hb
 have HND := Lib.hid hn
 have HT := Lib.hid (show tellN x = kwW tLocal :: namesT x.names by rw [tellN_eq]; simp [hx, tellK, he])
 obtain ⟨qn, cn, ql, cl, rfl, htx, hk⟩ := hn.parts
 have l0 := h.blk.lt
 have HTX := Lib.hid htx
 obtain ⟨kn, hkn⟩ : ∃ kn, x.kids.length = kn := ⟨_, rfl⟩
 rw [hkn] at hk HND ⊢
 have HK := Lib.hid hk
 obtain ⟨nn, hnn⟩ : ∃ nn, x.names.length = nn := ⟨_, rfl⟩
 rw [hnn] at HTX HND ⊢
 have HKL := Lib.hid hs
 have HNS := Lib.hid hns
 have HNL := Lib.hid hnl
 have hkn0 : kn = 0 := by rw [← hkn, he]; rfl
 subst hkn0
 have HS0 := Lib.hid (h.two (.cells #[.pointer (some ⟨T, 0, none⟩)] 74) (ndO x (.slice qn nn cn) (.slice ql 0 cl)))
 clear hn h hb hk htx hnn hs hns hnl he
 have e1 : (x.k == 1) = true := by rw [hx]; rfl
 clear hx
 go_enter Tryz.func78, Tryz.ntmps78
 go_wp2_with fail
 have hsz : ((w.alloc (.cells #[.pointer (some ⟨T, 0, none⟩)] 74)).alloc (ndO x (.slice qn nn cn) (.slice ql 0 cl))).heap.size = w.heap.size + 1 + 1 := by rw [size_alloc, size_alloc]
 generalize (w.alloc (.cells #[.pointer (some ⟨T, 0, none⟩)] 74)).alloc (ndO x (.slice qn nn cn) (.slice ql 0 cl)) = W0 at *
 refine (tkey_any W0 T v _ ⟨#[108, 111, 99, 97, 108]⟩ HS0.out.self (by have := HBD.out; rw [HT.out] at this; simp at this ⊢; omega)).mono ?_
 rintro e w1 ⟨⟨_, rfl⟩, v1, S1⟩
 have HS1 := Lib.hid (HS0.out.call S1)
 clear S1
 obtain ⟨t0, b0, b1, b2, b3, b4, b5, bl⟩ := HS1.out.sbox
 have bl2 : w.heap.size < w1.heap.size := by omega
 go_wp2_with fail
 refine (tnames_any w1 T v1 _ _ x.names HS1.out.self (HS1.out.txts HTX.out) HNS.out (by have := HNL.out; simp; omega)).mono ?_
 rintro e w2 ⟨⟨_, rfl⟩, v2, S2⟩
 have HS2 := Lib.hid (HS1.out.call S2)
 clear S2
 clear t0 b0 b1 b2 b3 b4 b5 bl bl2
 obtain ⟨t0, b0, b1, b2, b3, b4, b5, bl⟩ := HS2.out.sbox
 have bl2 : w.heap.size < w2.heap.size := by omega
 go_wp2_with fail
 go_end0
 exact ⟨⟨_, rfl⟩, _, by rw [HT.out]; simpa [List.append_assoc, kwW] using HS2.out.nob⟩
theorem tstm_1b (w : World) (T : Nat) (v : Value) (l : List Wd) (u : Value) (d : Nat) (x  : Nd) (hx : x.k = 1) (he : x.kids ≠ []) (hX : ∀ y ∈ x.kids, XC (d - 1) y) (hs : x.kids.length ≤ 140737488355328) (hns : x.names.length ≤ 9000000000000) (hnl : l.length + 2 * x.names.length + 1 ≤ 1000000001) (hn : NodeAt (· < T) w d u x) (h : TG T w v [] w v l) (hb : l.length + (tellN x).length ≤ 1000000000) :
  Calls Tryz.prog 78 #[.pointer (some ⟨T, 0, none⟩), u] w (TellE T w v l (tellN x)) := by
 have hmf : ∀ (fn : Fn) (first cap : Array Value) (w : World), (Instr.makeFunc fn first cap).run Tryz.prog w = .ok (.func fn first cap) w := fun _ _ _ _ => rfl
 have HBD := Lib.hid hb
 have HND := Lib.hid hn
 have HT := Lib.hid (show tellN x = kwW tLocal :: (namesT x.names ++ sgW [61] :: commaT (x.kids.map tellN)) by rw [tellN_eq]; simp [hx, tellK, he])
 obtain ⟨qn, cn, ql, cl, rfl, htx, hk⟩ := hn.parts
 have l0 := h.blk.lt
 have HTX := Lib.hid htx
 obtain ⟨kn, hkn⟩ : ∃ kn, x.kids.length = kn := ⟨_, rfl⟩
 rw [hkn] at hk HND ⊢
 have HK := Lib.hid hk
 obtain ⟨nn, hnn⟩ : ∃ nn, x.names.length = nn := ⟨_, rfl⟩
 rw [hnn] at HTX HND ⊢
 have HKL := Lib.hid hs
 have HNS := Lib.hid hns
 have HNL := Lib.hid hnl
 have hkn0 : 0 < kn := by rw [← hkn]; exact List.length_pos_iff.2 he
 have z1 : decide ((0 : Int) < (kn : Int)) = true := decide_eq_true (by omega)
 have z2 : decide (0 < kn) = true := decide_eq_true hkn0
 have HX := Lib.hid hX
 have HS0 := Lib.hid (h.two (.cells #[.pointer (some ⟨T, 0, none⟩)] 74) (ndO x (.slice qn nn cn) (.slice ql kn cl)))
 clear hn h hb hk htx hkn hnn hs hns hnl he hX
 have e1 : (x.k == 1) = true := by rw [hx]; rfl
 clear hx
 go_enter Tryz.func78, Tryz.ntmps78
 go_wp2_with fail
 have hsz : ((w.alloc (.cells #[.pointer (some ⟨T, 0, none⟩)] 74)).alloc (ndO x (.slice qn nn cn) (.slice ql kn cl))).heap.size = w.heap.size + 1 + 1 := by rw [size_alloc, size_alloc]
 generalize (w.alloc (.cells #[.pointer (some ⟨T, 0, none⟩)] 74)).alloc (ndO x (.slice qn nn cn) (.slice ql kn cl)) = W0 at *
 refine (tkey_any W0 T v _ ⟨#[108, 111, 99, 97, 108]⟩ HS0.out.self (by have := HBD.out; rw [HT.out] at this; simp at this ⊢; omega)).mono ?_
 rintro e w1 ⟨⟨_, rfl⟩, v1, S1⟩
 have HS1 := Lib.hid (HS0.out.call S1)
 clear S1
 obtain ⟨t0, b0, b1, b2, b3, b4, b5, bl⟩ := HS1.out.sbox
 have bl2 : w.heap.size < w1.heap.size := by omega
 go_wp2_with fail
 refine (tnames_any w1 T v1 _ _ x.names HS1.out.self (HS1.out.txts HTX.out) HNS.out (by have := HNL.out; simp; omega)).mono ?_
 rintro e w2 ⟨⟨_, rfl⟩, v2, S2⟩
 have HS2 := Lib.hid (HS1.out.call S2)
 clear S2
 clear t0 b0 b1 b2 b3 b4 b5 bl bl2
 obtain ⟨t0, b0, b1, b2, b3, b4, b5, bl⟩ := HS2.out.sbox
 have bl2 : w.heap.size < w2.heap.size := by omega
 go_wp2_with fail
 clear t0 b0 b1 b2 b3 b4 b5 bl bl2
 refine (tsign1 w2 T v2 _ ⟨#[61]⟩ HS2.out.self (by have := HBD.out; rw [HT.out] at this; simp at this ⊢; omega)).mono ?_
 rintro e w3 ⟨⟨_, rfl⟩, v3, S3⟩
 have HS3 := Lib.hid (HS2.out.call S3)
 clear S3
 obtain ⟨t0, b0, b1, b2, b3, b4, b5, bl⟩ := HS3.out.sbox
 have bl2 : w.heap.size < w3.heap.size := by omega
 go_wp2_with fail
 refine (tlist_any w3 T v3 _ _ d x.kids HX.out (HS3.out.kids HK.out) HS3.out.self HKL.out (by have := HBD.out; rw [HT.out] at this; simp at this ⊢; omega)).mono ?_
 rintro e w4 ⟨⟨_, rfl⟩, v4, S4⟩
 have HS4 := Lib.hid (HS3.out.call S4)
 clear S4
 clear t0 b0 b1 b2 b3 b4 b5 bl bl2
 go_wp2_with fail
 go_end0
 exact ⟨⟨_, rfl⟩, _, by rw [HT.out]; simpa [List.append_assoc, sgW, kwW, nmW, innerT] using HS4.out.nob⟩
theorem tstm_2 (w : World) (T : Nat) (v : Value) (l : List Wd) (u : Value) (d : Nat) (x y z : Nd) (hx : x.k = 2) (hks : x.kids = [y, z]) (hX : XC (d - 1) y) (hZ : XC (d - 1) z) (hn : NodeAt (· < T) w d u x) (h : TG T w v [] w v l) (hb : l.length + (tellN x).length ≤ 1000000000) :
  Calls Tryz.prog 78 #[.pointer (some ⟨T, 0, none⟩), u] w (TellE T w v l (tellN x)) := by
 have hmf : ∀ (fn : Fn) (first cap : Array Value) (w : World), (Instr.makeFunc fn first cap).run Tryz.prog w = .ok (.func fn first cap) w := fun _ _ _ _ => rfl
 have HBD := Lib.hid hb
 have HND := Lib.hid hn
 have HT := Lib.hid (show tellN x = tellN y ++ sgW [61] :: tellN z by rw [tellN_eq, hks]; simp [hx, tellK])
 obtain ⟨qn, cn, ql, cl, rfl, htx, hk⟩ := hn.parts
 have hkl : x.kids.length = 2 := by rw [hks]; rfl
 rw [hkl] at hk HND ⊢
 have HKX := Lib.hid hk
 rw [hks] at hk
 have HK := Lib.hid hk
 clear hkl
 have l0 := h.blk.lt
 have HTX := Lib.hid htx
 obtain ⟨nn, hnn⟩ : ∃ nn, x.names.length = nn := ⟨_, rfl⟩
 rw [hnn] at HTX HND ⊢
 have HXY := Lib.hid hX
 have HXZ := Lib.hid hZ
 have HS0 := Lib.hid (h.two (.cells #[.pointer (some ⟨T, 0, none⟩)] 74) (ndO x (.slice qn nn cn) (.slice ql 2 cl)))
 clear hn h hb hk htx hnn hks hX hZ
 have e1 : (x.k == 1) = false := by rw [hx]; rfl
 have e2 : (x.k == 2) = true := by rw [hx]; rfl
 clear hx
 go_enter Tryz.func78, Tryz.ntmps78
 go_upto_region 10 with (fail)
 have hsz : ((w.alloc (.cells #[.pointer (some ⟨T, 0, none⟩)] 74)).alloc (ndO x (.slice qn nn cn) (.slice ql 2 cl))).heap.size = w.heap.size + 1 + 1 := by rw [size_alloc, size_alloc]
 generalize (w.alloc (.cells #[.pointer (some ⟨T, 0, none⟩)] 74)).alloc (ndO x (.slice qn nn cn) (.slice ql 2 cl)) = W0 at *
 go_wp2_with fail
 obtain ⟨t0, b0, b1, b2, b3, b4, b5, bl⟩ := HS0.out.sbox
 have bl2 : w.heap.size < W0.heap.size := by omega
 obtain ⟨kb, ko, qm, mm, cm, qk, mk, ck, hq, bT, bw, k0, k1, k2, k3, k4, k5, hny⟩ := HS0.out.kid0 HK.out (y := y) rfl
 have HNY := Lib.hid hny
 clear hny
 cases hq
 have SS := And.intro t0 (And.intro b5 (And.intro k0 (And.intro k1 (And.intro k2 (And.intro k3 (And.intro k4 k5))))))
 clear t0 b0 b1 b2 b3 b4 b5 k0 k1 k2 k3 k4 k5
 refine wp_region_held_drew (S := fun w' => w'.cell? ⟨w.heap.size, 0, none⟩ = some (.pointer (some ⟨T, 0, none⟩)) ∧ w'.cell? ⟨w.heap.size + 1, 5, none⟩ = some (.slice (some ⟨kb, ko, none⟩) 2 cl) ∧ w'.cell? ⟨kb, ko, none⟩ = some (.int .i64 y.k) ∧ w'.cell? ⟨kb, ko + 1, none⟩ = some (.string y.name) ∧ w'.cell? ⟨kb, ko + 2, none⟩ = some (.string y.text) ∧ w'.cell? ⟨kb, ko + 3, none⟩ = some (.int .i64 y.n) ∧ w'.cell? ⟨kb, ko + 4, none⟩ = some (.slice qm mm cm) ∧ w'.cell? ⟨kb, ko + 5, none⟩ = some (.slice qk mk ck)) (by kernel_rfl) (SS) (fun hHeld => ?_)
 refine tkH (i := 0) (v := ?_) ?_
 try simp only [Act.put, pzz]
 refine tkH (i := 1) (v := ?_) ?_
 try simp only [Act.put, pzz]
 refine tkH (i := 2) (v := ?_) ?_
 try simp only [Act.put, pzz]
 refine tkH (i := 3) (v := ?_) ?_
 try simp only [Act.put, pzz]
 refine tkH (i := 4) (v := ?_) ?_
 try simp only [Act.put, pzz]
 refine wpAnyH_ready (rs := [5]) (by kernel_rfl) (by simp) ?_
 refine AllReadyH.cons rfl (fun K hK => ?_) AllReadyH.nil
 obtain ⟨t0, b5, k0, k1, k2, k3, k4, k5⟩ := id hHeld
 go_simp
 have HSd := Lib.hid (HS0.out.ext ((Ext.refl W0).drew))
 have k0d := ((Ext.refl W0).drew).cell SS.2.2.1
 have k1d := ((Ext.refl W0).drew).cell SS.2.2.2.1
 have k2d := ((Ext.refl W0).drew).cell SS.2.2.2.2.1
 have k3d := ((Ext.refl W0).drew).cell SS.2.2.2.2.2.1
 have k4d := ((Ext.refl W0).drew).cell SS.2.2.2.2.2.2.1
 have k5d := ((Ext.refl W0).drew).cell SS.2.2.2.2.2.2.2
 refine (HXY.out W0.drew T v _ _ (HSd.out.node HNY.out) HSd.out.self (by have := HBD.out; rw [HT.out] at this; simp at this ⊢; omega)).mono ?_
 rintro e w1 ⟨⟨_, rfl⟩, v1, S1⟩
 have HS1 := Lib.hid (HSd.out.call S1)
 have t0z := HS1.out.sbox.1
 have b5z := HS1.out.sbox.2.2.2.2.2.2.1
 have k0z := S1.low' bT k0d
 have k1z := S1.low' bT k1d
 have k2z := S1.low' bT k2d
 have k3z := S1.low' bT k3d
 have k4z := S1.low' bT k4d
 have k5z := S1.low' bT k5d
 clear S1 t0 b5 k0 k1 k2 k3 k4 k5 k0d k1d k2d k3d k4d k5d HSd
 clear hHeld
 refine hK.out _ _ (⟨t0z, b5z, k0z, k1z, k2z, k3z, k4z, k5z⟩) (fun hHeld => ?_)
 clear hK K
 try simp only [Act.put, pzz]
 refine wpAnyH_done (by kernel_rfl) ?_ _
 clear t0z b5z k0z k1z k2z k3z k4z k5z SS bT bw HNY bl bl2
 obtain ⟨t0, b0, b1, b2, b3, b4, b5, bl⟩ := HS1.out.sbox
 have bl2 : w.heap.size < w1.heap.size := by omega
 go_wp2_with fail
 clear t0 b0 b1 b2 b3 b4 b5 bl bl2
 refine (tsign1 w1 T v1 _ ⟨#[61]⟩ HS1.out.self (by have := HBD.out; rw [HT.out] at this; simp at this ⊢; omega)).mono ?_
 rintro e w2 ⟨⟨_, rfl⟩, v2, S2⟩
 have HS2 := Lib.hid (HS1.out.call S2)
 clear S2
 go_wp2_with fail
 obtain ⟨t0, b0, b1, b2, b3, b4, b5, bl⟩ := HS2.out.sbox
 have bl2 : w.heap.size < w2.heap.size := by omega
 obtain ⟨kb, ko, qm, mm, cm, qk, mk, ck, hq, bT, bw, k0, k1, k2, k3, k4, k5, hny⟩ := HS2.out.kid1 HK.out (y := z) rfl
 have HNY := Lib.hid hny
 clear hny
 cases hq
 have SS := And.intro t0 (And.intro b5 (And.intro k0 (And.intro k1 (And.intro k2 (And.intro k3 (And.intro k4 k5))))))
 clear t0 b0 b1 b2 b3 b4 b5 k0 k1 k2 k3 k4 k5
 refine wp_region_held_drew (S := fun w' => w'.cell? ⟨w.heap.size, 0, none⟩ = some (.pointer (some ⟨T, 0, none⟩)) ∧ w'.cell? ⟨w.heap.size + 1, 5, none⟩ = some (.slice (some ⟨kb, ko, none⟩) 2 cl) ∧ w'.cell? ⟨kb, ko + 6, none⟩ = some (.int .i64 z.k) ∧ w'.cell? ⟨kb, ko + 6 + 1, none⟩ = some (.string z.name) ∧ w'.cell? ⟨kb, ko + 6 + 2, none⟩ = some (.string z.text) ∧ w'.cell? ⟨kb, ko + 6 + 3, none⟩ = some (.int .i64 z.n) ∧ w'.cell? ⟨kb, ko + 6 + 4, none⟩ = some (.slice qm mm cm) ∧ w'.cell? ⟨kb, ko + 6 + 5, none⟩ = some (.slice qk mk ck)) (by kernel_rfl) (SS) (fun hHeld => ?_)
 refine tkH (i := 0) (v := ?_) ?_
 try simp only [Act.put, pzz]
 refine tkH (i := 1) (v := ?_) ?_
 try simp only [Act.put, pzz]
 refine tkH (i := 2) (v := ?_) ?_
 try simp only [Act.put, pzz]
 refine tkH (i := 3) (v := ?_) ?_
 try simp only [Act.put, pzz]
 refine tkH (i := 4) (v := ?_) ?_
 try simp only [Act.put, pzz]
 refine wpAnyH_ready (rs := [5]) (by kernel_rfl) (by simp) ?_
 refine AllReadyH.cons rfl (fun K hK => ?_) AllReadyH.nil
 obtain ⟨t0, b5, k0, k1, k2, k3, k4, k5⟩ := id hHeld
 go_simp
 have HSd := Lib.hid (HS2.out.ext ((Ext.refl w2).drew))
 have k0d := ((Ext.refl w2).drew).cell SS.2.2.1
 have k1d := ((Ext.refl w2).drew).cell SS.2.2.2.1
 have k2d := ((Ext.refl w2).drew).cell SS.2.2.2.2.1
 have k3d := ((Ext.refl w2).drew).cell SS.2.2.2.2.2.1
 have k4d := ((Ext.refl w2).drew).cell SS.2.2.2.2.2.2.1
 have k5d := ((Ext.refl w2).drew).cell SS.2.2.2.2.2.2.2
 refine (HXZ.out w2.drew T v2 _ _ (HSd.out.node HNY.out) HSd.out.self (by have := HBD.out; rw [HT.out] at this; simp at this ⊢; omega)).mono ?_
 rintro e w3 ⟨⟨_, rfl⟩, v3, S3⟩
 have HS3 := Lib.hid (HSd.out.call S3)
 have t0z := HS3.out.sbox.1
 have b5z := HS3.out.sbox.2.2.2.2.2.2.1
 have k0z := S3.low' bT k0d
 have k1z := S3.low' bT k1d
 have k2z := S3.low' bT k2d
 have k3z := S3.low' bT k3d
 have k4z := S3.low' bT k4d
 have k5z := S3.low' bT k5d
 clear S3 t0 b5 k0 k1 k2 k3 k4 k5 k0d k1d k2d k3d k4d k5d HSd
 clear hHeld
 refine hK.out _ _ (⟨t0z, b5z, k0z, k1z, k2z, k3z, k4z, k5z⟩) (fun hHeld => ?_)
 clear hK K
 try simp only [Act.put, pzz]
 refine wpAnyH_done (by kernel_rfl) ?_ _
 clear t0z b5z k0z k1z k2z k3z k4z k5z SS bT bw HNY bl bl2
 go_wp2_with fail
 go_end0
 exact ⟨⟨_, rfl⟩, _, by rw [HT.out]; simpa [List.append_assoc, sgW, kwW, nmW, innerT] using HS3.out.nob⟩
theorem tstm_3 (w : World) (T : Nat) (v : Value) (l : List Wd) (u : Value) (d : Nat) (x y : Nd) (hx : x.k = 3) (hks : x.kids = [y]) (hY : BC (d - 1) y) (hn : NodeAt (· < T) w d u x) (h : TG T w v [] w v l) (hb : l.length + (tellN x).length ≤ 1000000000) :
  Calls Tryz.prog 78 #[.pointer (some ⟨T, 0, none⟩), u] w (TellE T w v l (tellN x)) := by
 have hmf : ∀ (fn : Fn) (first cap : Array Value) (w : World), (Instr.makeFunc fn first cap).run Tryz.prog w = .ok (.func fn first cap) w := fun _ _ _ _ => rfl
 have HBD := Lib.hid hb
 have HND := Lib.hid hn
 have HT := Lib.hid (show tellN x = kwW tDo :: (tellN y ++ [kwW tEnd]) by rw [tellN_eq, hks]; simp [hx, tellK])
 obtain ⟨qn, cn, ql, cl, rfl, htx, hk⟩ := hn.parts
 have hkl : x.kids.length = 1 := by rw [hks]; rfl
 rw [hkl] at hk HND ⊢
 have HKX := Lib.hid hk
 rw [hks] at hk
 have HK := Lib.hid hk
 clear hkl
 have l0 := h.blk.lt
 have HTX := Lib.hid htx
 obtain ⟨nn, hnn⟩ : ∃ nn, x.names.length = nn := ⟨_, rfl⟩
 rw [hnn] at HTX HND ⊢
 have HY := Lib.hid hY
 have hy0 : x.kids[0]? = some y := by rw [hks]; rfl
 have HY0 := Lib.hid hy0
 clear hy0 hY hks
 have HS0 := Lib.hid (h.two (.cells #[.pointer (some ⟨T, 0, none⟩)] 74) (ndO x (.slice qn nn cn) (.slice ql 1 cl)))
 clear hn h hb hk htx hnn
 have e1 : (x.k == 1) = false := by rw [hx]; rfl
 have e2 : (x.k == 2) = false := by rw [hx]; rfl
 have e3 : (x.k == 3) = true := by rw [hx]; rfl
 clear hx
 go_enter Tryz.func78, Tryz.ntmps78
 go_wp2_with fail
 have hsz : ((w.alloc (.cells #[.pointer (some ⟨T, 0, none⟩)] 74)).alloc (ndO x (.slice qn nn cn) (.slice ql 1 cl))).heap.size = w.heap.size + 1 + 1 := by rw [size_alloc, size_alloc]
 generalize (w.alloc (.cells #[.pointer (some ⟨T, 0, none⟩)] 74)).alloc (ndO x (.slice qn nn cn) (.slice ql 1 cl)) = W0 at *
 refine (tbody_do w T v v _ W0 w.heap.size (w.heap.size + 1) x y (.slice qn nn cn) _ cl 0 d HS0.out HKX.out HY0.out HY.out (by decide) (by have := HBD.out; rw [HT.out] at this; simp at this ⊢; omega)).mono ?_
 rintro e w1 ⟨⟨_, rfl⟩, v1, S1⟩
 have HS1 := Lib.hid S1
 clear S1
 go_wp2_with fail
 go_end0
 exact ⟨⟨_, rfl⟩, _, by rw [HT.out]; simpa [List.append_assoc, sgW, kwW, nmW, innerT] using HS1.out.nob⟩
theorem tstm_5 (w : World) (T : Nat) (v : Value) (l : List Wd) (u : Value) (d : Nat) (x y z : Nd) (hx : x.k = 5) (hks : x.kids = [y, z]) (hX : XC (d - 1) y) (hZ : BC (d - 1) z) (hn : NodeAt (· < T) w d u x) (h : TG T w v [] w v l) (hb : l.length + (tellN x).length ≤ 1000000000) :
  Calls Tryz.prog 78 #[.pointer (some ⟨T, 0, none⟩), u] w (TellE T w v l (tellN x)) := by
 have hmf : ∀ (fn : Fn) (first cap : Array Value) (w : World), (Instr.makeFunc fn first cap).run Tryz.prog w = .ok (.func fn first cap) w := fun _ _ _ _ => rfl
 have HBD := Lib.hid hb
 have HND := Lib.hid hn
 have HT := Lib.hid (show tellN x = kwW tWhile :: (tellN y ++ kwW tDo :: (tellN z ++ [kwW tEnd])) by rw [tellN_eq, hks]; simp [hx, tellK])
 obtain ⟨qn, cn, ql, cl, rfl, htx, hk⟩ := hn.parts
 have hkl : x.kids.length = 2 := by rw [hks]; rfl
 rw [hkl] at hk HND ⊢
 have HKX := Lib.hid hk
 rw [hks] at hk
 have HK := Lib.hid hk
 clear hkl
 have l0 := h.blk.lt
 have HTX := Lib.hid htx
 obtain ⟨nn, hnn⟩ : ∃ nn, x.names.length = nn := ⟨_, rfl⟩
 rw [hnn] at HTX HND ⊢
 have HXY := Lib.hid hX
 have HY := Lib.hid hZ
 have hy0 : x.kids[1]? = some z := by rw [hks]; rfl
 have HY0 := Lib.hid hy0
 clear hy0 hX hZ hks
 have HS0 := Lib.hid (h.two (.cells #[.pointer (some ⟨T, 0, none⟩)] 74) (ndO x (.slice qn nn cn) (.slice ql 2 cl)))
 clear hn h hb hk htx hnn
 have e1 : (x.k == 1) = false := by rw [hx]; rfl
 have e2 : (x.k == 2) = false := by rw [hx]; rfl
 have e3 : (x.k == 3) = false := by rw [hx]; rfl
 have e4 : (x.k == 4) = false := by rw [hx]; rfl
 have e5 : (x.k == 5) = true := by rw [hx]; rfl
 clear hx
 go_enter Tryz.func78, Tryz.ntmps78
 go_wp2_with fail
 have hsz : ((w.alloc (.cells #[.pointer (some ⟨T, 0, none⟩)] 74)).alloc (ndO x (.slice qn nn cn) (.slice ql 2 cl))).heap.size = w.heap.size + 1 + 1 := by rw [size_alloc, size_alloc]
 generalize (w.alloc (.cells #[.pointer (some ⟨T, 0, none⟩)] 74)).alloc (ndO x (.slice qn nn cn) (.slice ql 2 cl)) = W0 at *
 refine (tkey_any W0 T v _ ⟨#[119, 104, 105, 108, 101]⟩ HS0.out.self (by have := HBD.out; rw [HT.out] at this; simp at this ⊢; omega)).mono ?_
 rintro e w1 ⟨⟨_, rfl⟩, v1, S1⟩
 have HS1 := Lib.hid (HS0.out.call S1)
 clear S1
 go_wp2_with fail
 obtain ⟨t0, b0, b1, b2, b3, b4, b5, bl⟩ := HS1.out.sbox
 have bl2 : w.heap.size < w1.heap.size := by omega
 obtain ⟨kb, ko, qm, mm, cm, qk, mk, ck, hq, bT, bw, k0, k1, k2, k3, k4, k5, hny⟩ := HS1.out.kid0 HK.out (y := y) rfl
 have HNY := Lib.hid hny
 clear hny
 cases hq
 have SS := And.intro t0 (And.intro b5 (And.intro k0 (And.intro k1 (And.intro k2 (And.intro k3 (And.intro k4 k5))))))
 clear t0 b0 b1 b2 b3 b4 b5 k0 k1 k2 k3 k4 k5
 refine wp_region_held_drew (S := fun w' => w'.cell? ⟨w.heap.size, 0, none⟩ = some (.pointer (some ⟨T, 0, none⟩)) ∧ w'.cell? ⟨w.heap.size + 1, 5, none⟩ = some (.slice (some ⟨kb, ko, none⟩) 2 cl) ∧ w'.cell? ⟨kb, ko, none⟩ = some (.int .i64 y.k) ∧ w'.cell? ⟨kb, ko + 1, none⟩ = some (.string y.name) ∧ w'.cell? ⟨kb, ko + 2, none⟩ = some (.string y.text) ∧ w'.cell? ⟨kb, ko + 3, none⟩ = some (.int .i64 y.n) ∧ w'.cell? ⟨kb, ko + 4, none⟩ = some (.slice qm mm cm) ∧ w'.cell? ⟨kb, ko + 5, none⟩ = some (.slice qk mk ck)) (by kernel_rfl) (SS) (fun hHeld => ?_)
 refine tkH (i := 0) (v := ?_) ?_
 try simp only [Act.put, pzz]
 refine tkH (i := 1) (v := ?_) ?_
 try simp only [Act.put, pzz]
 refine tkH (i := 2) (v := ?_) ?_
 try simp only [Act.put, pzz]
 refine tkH (i := 3) (v := ?_) ?_
 try simp only [Act.put, pzz]
 refine tkH (i := 4) (v := ?_) ?_
 try simp only [Act.put, pzz]
 refine wpAnyH_ready (rs := [5]) (by kernel_rfl) (by simp) ?_
 refine AllReadyH.cons rfl (fun K hK => ?_) AllReadyH.nil
 obtain ⟨t0, b5, k0, k1, k2, k3, k4, k5⟩ := id hHeld
 go_simp
 have HSd := Lib.hid (HS1.out.ext ((Ext.refl w1).drew))
 have k0d := ((Ext.refl w1).drew).cell SS.2.2.1
 have k1d := ((Ext.refl w1).drew).cell SS.2.2.2.1
 have k2d := ((Ext.refl w1).drew).cell SS.2.2.2.2.1
 have k3d := ((Ext.refl w1).drew).cell SS.2.2.2.2.2.1
 have k4d := ((Ext.refl w1).drew).cell SS.2.2.2.2.2.2.1
 have k5d := ((Ext.refl w1).drew).cell SS.2.2.2.2.2.2.2
 refine (HXY.out w1.drew T v1 _ _ (HSd.out.node HNY.out) HSd.out.self (by have := HBD.out; rw [HT.out] at this; simp at this ⊢; omega)).mono ?_
 rintro e w2 ⟨⟨_, rfl⟩, v2, S2⟩
 have HS2 := Lib.hid (HSd.out.call S2)
 have t0z := HS2.out.sbox.1
 have b5z := HS2.out.sbox.2.2.2.2.2.2.1
 have k0z := S2.low' bT k0d
 have k1z := S2.low' bT k1d
 have k2z := S2.low' bT k2d
 have k3z := S2.low' bT k3d
 have k4z := S2.low' bT k4d
 have k5z := S2.low' bT k5d
 clear S2 t0 b5 k0 k1 k2 k3 k4 k5 k0d k1d k2d k3d k4d k5d HSd
 clear hHeld
 refine hK.out _ _ (⟨t0z, b5z, k0z, k1z, k2z, k3z, k4z, k5z⟩) (fun hHeld => ?_)
 clear hK K
 try simp only [Act.put, pzz]
 refine wpAnyH_done (by kernel_rfl) ?_ _
 clear t0z b5z k0z k1z k2z k3z k4z k5z SS bT bw HNY bl bl2
 go_wp2_with fail
 refine (tbody_do w T v v2 _ w2 w.heap.size (w.heap.size + 1) x z (.slice qn nn cn) _ cl 1 d HS2.out HKX.out HY0.out HY.out (by decide) (by have := HBD.out; rw [HT.out] at this; simp at this ⊢; omega)).mono ?_
 rintro e w3 ⟨⟨_, rfl⟩, v3, S3⟩
 have HS3 := Lib.hid S3
 clear S3
 go_wp2_with fail
 go_end0
 exact ⟨⟨_, rfl⟩, _, by rw [HT.out]; simpa [List.append_assoc, sgW, kwW, nmW, innerT] using HS3.out.nob⟩
theorem tstm_9 (w : World) (T : Nat) (v : Value) (l : List Wd) (u : Value) (d : Nat) (x y : Nd) (hx : x.k = 9) (hks : x.kids = [y]) (hY : BC (d - 1) y) (hns : x.names.length ≤ 9000000000000) (hnl : l.length + 2 * x.names.length + 4 ≤ 1000000000) (hn : NodeAt (· < T) w d u x) (h : TG T w v [] w v l) (hb : l.length + (tellN x).length ≤ 1000000000) :
  Calls Tryz.prog 78 #[.pointer (some ⟨T, 0, none⟩), u] w (TellE T w v l (tellN x)) := by
 have hmf : ∀ (fn : Fn) (first cap : Array Value) (w : World), (Instr.makeFunc fn first cap).run Tryz.prog w = .ok (.func fn first cap) w := fun _ _ _ _ => rfl
 have HBD := Lib.hid hb
 have HND := Lib.hid hn
 have HT := Lib.hid (show tellN x = kwW tLocal :: kwW tFunction :: nmW x.name :: sgW [40] :: (namesT x.names ++ sgW [41] :: (tellN y ++ [kwW tEnd])) by rw [tellN_eq, hks]; simp [hx, tellK])
 obtain ⟨qn, cn, ql, cl, rfl, htx, hk⟩ := hn.parts
 have hkl : x.kids.length = 1 := by rw [hks]; rfl
 rw [hkl] at hk HND ⊢
 have HKX := Lib.hid hk
 rw [hks] at hk
 have HK := Lib.hid hk
 clear hkl
 have l0 := h.blk.lt
 have HTX := Lib.hid htx
 obtain ⟨nn, hnn⟩ : ∃ nn, x.names.length = nn := ⟨_, rfl⟩
 rw [hnn] at HTX HND ⊢
 have HY := Lib.hid hY
 have hy0 : x.kids[0]? = some y := by rw [hks]; rfl
 have HY0 := Lib.hid hy0
 have HNS := Lib.hid hns
 have HNL := Lib.hid hnl
 clear hy0 hY hks hns hnl
 have HS0 := Lib.hid (h.two (.cells #[.pointer (some ⟨T, 0, none⟩)] 74) (ndO x (.slice qn nn cn) (.slice ql 1 cl)))
 clear hn h hb hk htx hnn
 have e1 : (x.k == 1) = false := by rw [hx]; rfl
 have e2 : (x.k == 2) = false := by rw [hx]; rfl
 have e3 : (x.k == 3) = false := by rw [hx]; rfl
 have e4 : (x.k == 4) = false := by rw [hx]; rfl
 have e5 : (x.k == 5) = false := by rw [hx]; rfl
 have e6 : (x.k == 6) = false := by rw [hx]; rfl
 have e7 : (x.k == 7) = false := by rw [hx]; rfl
 have e8 : (x.k == 8) = false := by rw [hx]; rfl
 have e9 : (x.k == 9) = true := by rw [hx]; rfl
 clear hx
 go_enter Tryz.func78, Tryz.ntmps78
 go_wp2_with fail
 have hsz : ((w.alloc (.cells #[.pointer (some ⟨T, 0, none⟩)] 74)).alloc (ndO x (.slice qn nn cn) (.slice ql 1 cl))).heap.size = w.heap.size + 1 + 1 := by rw [size_alloc, size_alloc]
 generalize (w.alloc (.cells #[.pointer (some ⟨T, 0, none⟩)] 74)).alloc (ndO x (.slice qn nn cn) (.slice ql 1 cl)) = W0 at *
 refine (tkey_any W0 T v _ ⟨#[108, 111, 99, 97, 108]⟩ HS0.out.self (by have := HBD.out; rw [HT.out] at this; simp at this ⊢; omega)).mono ?_
 rintro e w1 ⟨⟨_, rfl⟩, v1, S1⟩
 have HS1 := Lib.hid (HS0.out.call S1)
 clear S1
 obtain ⟨t0, b0, b1, b2, b3, b4, b5, bl⟩ := HS1.out.sbox
 have bl2 : w.heap.size < w1.heap.size := by omega
 go_wp2_with fail
 clear t0 b0 b1 b2 b3 b4 b5 bl bl2
 refine (tkey_any w1 T v1 _ ⟨#[102, 117, 110, 99, 116, 105, 111, 110]⟩ HS1.out.self (by have := HBD.out; rw [HT.out] at this; simp at this ⊢; omega)).mono ?_
 rintro e w2 ⟨⟨_, rfl⟩, v2, S2⟩
 have HS2 := Lib.hid (HS1.out.call S2)
 clear S2
 obtain ⟨t0, b0, b1, b2, b3, b4, b5, bl⟩ := HS2.out.sbox
 have bl2 : w.heap.size < w2.heap.size := by omega
 go_wp2_with fail
 clear t0 b0 b1 b2 b3 b4 b5 bl bl2
 refine (tname_any w2 T v2 _ x.name HS2.out.self (by have := HBD.out; rw [HT.out] at this; simp at this ⊢; omega)).mono ?_
 rintro e w3 ⟨⟨_, rfl⟩, v3, S3⟩
 have HS3 := Lib.hid (HS2.out.call S3)
 clear S3
 obtain ⟨t0, b0, b1, b2, b3, b4, b5, bl⟩ := HS3.out.sbox
 have bl2 : w.heap.size < w3.heap.size := by omega
 go_wp2_with fail
 clear t0 b0 b1 b2 b3 b4 b5 bl bl2
 refine (tsign1 w3 T v3 _ ⟨#[40]⟩ HS3.out.self (by have := HBD.out; rw [HT.out] at this; simp at this ⊢; omega)).mono ?_
 rintro e w4 ⟨⟨_, rfl⟩, v4, S4⟩
 have HS4 := Lib.hid (HS3.out.call S4)
 clear S4
 obtain ⟨t0, b0, b1, b2, b3, b4, b5, bl⟩ := HS4.out.sbox
 have bl2 : w.heap.size < w4.heap.size := by omega
 go_wp2_with fail
 refine (tnames_any w4 T v4 _ _ x.names HS4.out.self (HS4.out.txts HTX.out) HNS.out (by have := HNL.out; simp; omega)).mono ?_
 rintro e w5 ⟨⟨_, rfl⟩, v5, S5⟩
 have HS5 := Lib.hid (HS4.out.call S5)
 clear S5
 clear t0 b0 b1 b2 b3 b4 b5 bl bl2
 obtain ⟨t0, b0, b1, b2, b3, b4, b5, bl⟩ := HS5.out.sbox
 have bl2 : w.heap.size < w5.heap.size := by omega
 go_wp2_with fail
 clear t0 b0 b1 b2 b3 b4 b5 bl bl2
 refine (tsign1 w5 T v5 _ ⟨#[41]⟩ HS5.out.self (by have := HBD.out; rw [HT.out] at this; simp at this ⊢; omega)).mono ?_
 rintro e w6 ⟨⟨_, rfl⟩, v6, S6⟩
 have HS6 := Lib.hid (HS5.out.call S6)
 clear S6
 go_wp2_with fail
 refine (tbody_no w T v v6 _ w6 w.heap.size (w.heap.size + 1) x y (.slice qn nn cn) _ cl 0 d HS6.out HKX.out HY0.out HY.out (by decide) (by have := HBD.out; rw [HT.out] at this; simp at this ⊢; omega)).mono ?_
 rintro e w7 ⟨⟨_, rfl⟩, v7, S7⟩
 have HS7 := Lib.hid S7
 clear S7
 go_wp2_with fail
 go_end0
 exact ⟨⟨_, rfl⟩, _, by rw [HT.out]; simpa [List.append_assoc, sgW, kwW, nmW, innerT] using HS7.out.nob⟩
theorem tstm_6 (w : World) (T : Nat) (v : Value) (l : List Wd) (u : Value) (d : Nat) (x z : Nd) (s : ByteArray) (ks : List Nd) (hx : x.k = 6) (hnm : x.names = [s]) (hks : x.kids = ks ++ [z]) (hX : ∀ y ∈ ks, XC (d - 1) y) (hZ : BC (d - 1) z) (hs : x.kids.length ≤ 140737488355328) (hn : NodeAt (· < T) w d u x) (h : TG T w v [] w v l) (hb : l.length + (tellN x).length ≤ 1000000000) :
  Calls Tryz.prog 78 #[.pointer (some ⟨T, 0, none⟩), u] w (TellE T w v l (tellN x)) := by
 have hmf : ∀ (fn : Fn) (first cap : Array Value) (w : World), (Instr.makeFunc fn first cap).run Tryz.prog w = .ok (.func fn first cap) w := fun _ _ _ _ => rfl
 have HBD := Lib.hid hb
 have HND := Lib.hid hn
 have HT := Lib.hid (show tellN x = kwW tFor :: nmW s :: sgW [61] :: (commaT (ks.map tellN) ++ kwW tDo :: (tellN z ++ [kwW tEnd])) by
  rw [tellN_eq, hks, hnm]
  simp only [hx, tellK, List.map_append, List.map_cons, List.map_nil, List.dropLast_concat, List.getLastD_concat, List.headD_cons]
  rfl)
 obtain ⟨qn, cn, ql, cl, rfl, htx, hk⟩ := hn.parts
 obtain ⟨j, hj⟩ : ∃ j, ks.length = j := ⟨_, rfl⟩
 have hkl : x.kids.length = j + 1 := by rw [hks, List.length_append, hj]; rfl
 have hy0 : x.kids[j]? = some z := by rw [hks, ← hj]; simp
 have hnl : x.names.length = 1 := by rw [hnm]; rfl
 rw [hkl] at hk hs HND ⊢
 rw [hnl] at htx HND ⊢
 have HKX := Lib.hid hk
 rw [hks] at hk
 have hfr := hk.front
 rw [hj] at hfr
 obtain ⟨_, hjc, hkf⟩ := hfr
 have HKF := Lib.hid hkf
 rw [hnm] at htx
 obtain ⟨q', c', e', hxs⟩ := htx
 obtain ⟨sb, so, e2, hsT, _, hsc⟩ := hxs (by simp)
 have hsT : sb < T := hsT
 have hc0 : w.cell? ⟨sb, so, none⟩ = some (.string s) := by simpa using hsc 0 (by simp)
 obtain rfl : qn = some ⟨sb, so, none⟩ := by injection e' with a _ _; exact a.trans e2
 have l0 := h.blk.lt
 have HX := Lib.hid hX
 have HY := Lib.hid hZ
 have HY0 := Lib.hid hy0
 have HCS := Lib.hid hc0
 have HJ := Lib.hid hj
 have hw1 : IntKind.i64.wrap ((j : Int) + 1 - 1) = (j : Int) := by rw [IntWalk.i64_in _ (by omega)]; omega
 have hw2 : IntKind.i64.wrap (j : Int) = (j : Int) := IntWalk.i64_in _ (by omega)
 have i0 : (0 : Int) ≤ (j : Int) := by omega
 have i1 : (j : Int) ≤ (cl : Int) := by omega
 have i2 : (j : Int) < (j : Int) + 1 := by omega
 have HS0 := Lib.hid (h.two (.cells #[.pointer (some ⟨T, 0, none⟩)] 74) (ndO x (.slice (some ⟨sb, so, none⟩) 1 cn) (.slice ql (j + 1) cl)))
 clear hn h hb hk hxs hsc e' e2 hX hZ hy0 hj hkf hkl hnl hnm hks hc0
 have e1 : (x.k == 1) = false := by rw [hx]; rfl
 have e2 : (x.k == 2) = false := by rw [hx]; rfl
 have e3 : (x.k == 3) = false := by rw [hx]; rfl
 have e4 : (x.k == 4) = false := by rw [hx]; rfl
 have e5 : (x.k == 5) = false := by rw [hx]; rfl
 have e6 : (x.k == 6) = true := by rw [hx]; rfl
 clear hx
 go_enter Tryz.func78, Tryz.ntmps78
 go_wp2_with fail
 have hsz : ((w.alloc (.cells #[.pointer (some ⟨T, 0, none⟩)] 74)).alloc (ndO x (.slice (some ⟨sb, so, none⟩) 1 cn) (.slice ql (j + 1) cl))).heap.size = w.heap.size + 1 + 1 := by rw [size_alloc, size_alloc]
 generalize (w.alloc (.cells #[.pointer (some ⟨T, 0, none⟩)] 74)).alloc (ndO x (.slice (some ⟨sb, so, none⟩) 1 cn) (.slice ql (j + 1) cl)) = W0 at *
 refine (tkey_any W0 T v _ ⟨#[102, 111, 114]⟩ HS0.out.self (by have := HBD.out; rw [HT.out] at this; simp at this ⊢; omega)).mono ?_
 rintro e w1 ⟨⟨_, rfl⟩, v1, S1⟩
 have HS1 := Lib.hid (HS0.out.call S1)
 clear S1
 go_wp2_with fail
 obtain ⟨t0, b0, b1, b2, b3, b4, b5, bl⟩ := HS1.out.sbox
 have bl2 : w.heap.size < w1.heap.size := by omega
 have k0 := HS1.out.low' hsT HCS.out
 have sl := cell_lt k0
 simp only at sl
 have SS := And.intro t0 (And.intro b4 k0)
 clear t0 b0 b1 b2 b3 b4 b5 k0
 refine wp_region_held_drew (S := fun w' => w'.cell? ⟨w.heap.size, 0, none⟩ = some (.pointer (some ⟨T, 0, none⟩)) ∧ w'.cell? ⟨w.heap.size + 1, 4, none⟩ = some (.slice (some ⟨sb, so, none⟩) 1 cn) ∧ w'.cell? ⟨sb, so, none⟩ = some (.string s)) (by kernel_rfl) (SS) (fun hHeld => ?_)
 refine tkH (i := 0) (v := ?_) ?_
 try simp only [Act.put, pzz]
 refine tkH (i := 1) (v := ?_) ?_
 try simp only [Act.put, pzz]
 refine tkH (i := 2) (v := ?_) ?_
 try simp only [Act.put, pzz]
 refine tkH (i := 3) (v := ?_) ?_
 try simp only [Act.put, pzz]
 refine tkH (i := 4) (v := ?_) ?_
 try simp only [Act.put, pzz]
 refine wpAnyH_ready (rs := [5]) (by kernel_rfl) (by simp) ?_
 refine AllReadyH.cons rfl (fun K hK => ?_) AllReadyH.nil
 obtain ⟨t0, b4, k0⟩ := id hHeld
 go_simp
 have HSd := Lib.hid (HS1.out.ext ((Ext.refl w1).drew))
 refine (tname_any w1.drew T v1 _ s HSd.out.self (by have := HBD.out; rw [HT.out] at this; simp at this ⊢; omega)).mono ?_
 rintro e w2 ⟨⟨_, rfl⟩, v2, S2⟩
 have HS2 := Lib.hid (HSd.out.call S2)
 have t0z := HS2.out.sbox.1
 have b4z := HS2.out.sbox.2.2.2.2.2.1
 have k0z := HS2.out.low' hsT HCS.out
 clear S2 t0 b4 k0 HSd
 clear hHeld
 refine hK.out _ _ (⟨t0z, b4z, k0z⟩) (fun hHeld => ?_)
 clear hK K
 try simp only [Act.put, pzz]
 refine wpAnyH_done (by kernel_rfl) ?_ _
 clear t0z b4z k0z SS sl bl bl2
 obtain ⟨t0, b0, b1, b2, b3, b4, b5, bl⟩ := HS2.out.sbox
 have bl2 : w.heap.size < w2.heap.size := by omega
 go_wp2_with fail
 clear t0 b0 b1 b2 b3 b4 b5 bl bl2
 refine (tsign1 w2 T v2 _ ⟨#[61]⟩ HS2.out.self (by have := HBD.out; rw [HT.out] at this; simp at this ⊢; omega)).mono ?_
 rintro e w3 ⟨⟨_, rfl⟩, v3, S3⟩
 have HS3 := Lib.hid (HS2.out.call S3)
 clear S3
 go_wp2_with fail
 obtain ⟨t0, b0, b1, b2, b3, b4, b5, bl⟩ := HS3.out.sbox
 have bl2 : w.heap.size < w3.heap.size := by omega
 have SS := And.intro t0 b5
 clear t0 b0 b1 b2 b3 b4 b5
 refine wp_region_held_drew (S := fun w' => w'.cell? ⟨w.heap.size, 0, none⟩ = some (.pointer (some ⟨T, 0, none⟩)) ∧ w'.cell? ⟨w.heap.size + 1, 5, none⟩ = some (.slice ql (j + 1) cl)) (by kernel_rfl) (SS) (fun hHeld => ?_)
 refine tkH (i := 0) (v := ?_) ?_
 try simp only [Act.put, pzz]
 refine tkH (i := 1) (v := ?_) ?_
 try simp only [Act.put, pzz]
 refine tkH (i := 2) (v := ?_) ?_
 try simp only [Act.put, pzz]
 refine tkH (i := 3) (v := ?_) ?_
 try simp only [Act.put, pzz]
 refine tkH (i := 4) (v := ?_) ?_
 try simp only [Act.put, pzz]
 refine tkH (i := 5) (v := ?_) ?_
 try simp only [Act.put, pzz]
 refine tkH (i := 6) (v := ?_) ?_
 try simp only [Act.put, pzz]
 refine tkH (i := 7) (v := ?_) ?_
 try simp only [Act.put, pzz]
 refine wpAnyH_ready (rs := [8]) (by kernel_rfl) (by simp) ?_
 refine AllReadyH.cons rfl (fun K hK => ?_) AllReadyH.nil
 obtain ⟨t0, b5⟩ := id hHeld
 go_simp
 have HSd := Lib.hid (HS3.out.ext ((Ext.refl w3).drew))
 refine (tlist_any w3.drew T v3 _ _ d ks HX.out (HSd.out.kids HKF.out) HSd.out.self (by have := HJ.out; omega) (by have := HBD.out; rw [HT.out] at this; simp at this ⊢; omega)).mono ?_
 rintro e w4 ⟨⟨_, rfl⟩, v4, S4⟩
 have HS4 := Lib.hid (HSd.out.call S4)
 have t0z := HS4.out.sbox.1
 have b5z := HS4.out.sbox.2.2.2.2.2.2.1
 clear S4 t0 b5 HSd
 clear hHeld
 refine hK.out _ _ (⟨t0z, b5z⟩) (fun hHeld => ?_)
 clear hK K
 try simp only [Act.put, pzz]
 refine wpAnyH_done (by kernel_rfl) ?_ _
 clear t0z b5z SS bl bl2
 go_wp2_with fail
 refine (tbody_do w T v v4 _ w4 w.heap.size (w.heap.size + 1) x z (.slice (some ⟨sb, so, none⟩) 1 cn) _ cl j d HS4.out HKX.out HY0.out HY.out (by omega) (by have := HBD.out; rw [HT.out] at this; simp at this ⊢; omega)).mono ?_
 rintro e w5 ⟨⟨_, rfl⟩, v5, S5⟩
 have HS5 := Lib.hid S5
 clear S5
 go_wp2_with fail
 go_end0
 exact ⟨⟨_, rfl⟩, _, by rw [HT.out]; simpa [List.append_assoc, sgW, kwW, nmW, innerT] using HS5.out.nob⟩
theorem names_len : ∀ ns : List ByteArray, 2 * ns.length ≤ (namesT ns).length + 1
 | [] => by simp
 | [s] => by simp [namesT, commaT]
 | s :: t :: ns => by
  have := names_len (t :: ns)
  simp only [namesT, commaT, List.map_cons, List.length_append, List.length_cons, List.flatMap_cons, List.length_nil] at this ⊢
  omega
theorem tstm_all : ∀ x : Nd, mayN x = true → SzN x → (stmtK x.k = true → ∀ d, SC d x) ∧ (x.k = 0 → ∀ d, BC d x) := by
 refine Nd.ind fun x ih hm hs => ⟨fun hk d => ?_, fun hk d => ?_⟩
 ·have hmk := (may_node hm).2
  have hsk := hs.out.sub
  have hkl := hs.out.kids
  have hnn := hs.out.names
  have ex : ∀ y ∈ x.kids, exprK y.k = true → ∀ d, XC d y := fun y hy he d => (texpr_all y d).1 he (hmk y hy) (hsk y hy)
  have bl : ∀ y ∈ x.kids, y.k = 0 → ∀ d, BC d y := fun y hy he => (ih y hy (hmk y hy) (hsk y hy)).2 he
  intro W T v l u hn hg hb
  rcases stmtK_in hk with e | e | e | e | e | e | e | e | e | e
  ·obtain ⟨h1, h2⟩ := kids_1 hm e
   have h3 := names_len x.names
   have hT : (namesT x.names).length + 1 ≤ (tellN x).length := by rw [tellN_eq]; simp [e, tellK]
   by_cases he : x.kids = []
   ·exact tstm_1a W T v l u d x e he hkl (by omega) (by omega) hn hg hb
   ·exact tstm_1b W T v l u d x e he (fun y hy => ex y hy (h1 y hy) _) hkl (by omega) (by
     have hT2 : (namesT x.names).length + 2 ≤ (tellN x).length := by rw [tellN_eq]; simp [e, tellK, he]; first | done | omega
     omega) hn hg hb
  ·obtain ⟨a, b, hks, h1, h2⟩ := kids_2 hm e
   exact tstm_2 W T v l u d x a b e hks (ex a (by rw [hks]; simp) h1 _) (ex b (by rw [hks]; simp) h2 _) hn hg hb
  ·obtain ⟨b, hks, h1⟩ := kids_3 hm e
   exact tstm_3 W T v l u d x b e hks (bl b (by rw [hks]; simp) h1 _) hn hg hb
  ·obtain ⟨h1, c, b, r, hks⟩ := kids_4 hm e
   exact tstm_4 W T v l u d x e h1 (by rw [hks]; simp) (fun y hy he => ex y hy he _) (fun y hy he => bl y hy he _) hkl hn hg hb
  ·obtain ⟨a, b, hks, h1, h2⟩ := kids_5 hm e
   exact tstm_5 W T v l u d x a b e hks (ex a (by rw [hks]; simp) h1 _) (bl b (by rw [hks]; simp) h2 _) hn hg hb
  ·obtain ⟨⟨s, hnm⟩, ks, z, hks, h1, h2⟩ := kids_6 hm e
   exact tstm_6 W T v l u d x z s ks e hnm hks (fun y hy => ex y (by rw [hks]; simp [hy]) (h1 y hy) _) (bl z (by rw [hks]; simp) h2 _) hkl hn hg hb
  ·exact tstm_7 W T v l u d x e (fun y hy => ex y hy (kids_7 hm e y hy) _) hkl hn hg hb
  ·exact tstm_8 W T v l u d x e hn hg hb
  ·obtain ⟨b, hks, h1⟩ := kids_9 hm e
   have h3 := names_len x.names
   have hT : (namesT x.names).length + 6 ≤ (tellN x).length := by rw [tellN_eq, hks]; simp [e, tellK]; first | done | omega
   exact tstm_9 W T v l u d x b e hks (bl b (by rw [hks]; simp) h1 _) (by omega) (by omega) hn hg hb
  ·exact tstm_17 W T v l u d x e ((texpr_all x d).1 (by rw [e]; decide) hm hs) hn hg hb
 ·exact tblock_any d x hk (fun y hy => (ih y hy ((may_node hm).2 y hy) (hs.out.sub y hy)).1 (kids_0 hm hk y hy) _) hs.out.kids
end Go.Proofs.YtkbcnacjaakleaaGreatDoor
