/- table; operand. -/
import Derived.Test.YtkbcnacjaakleaaGreatDoorYSyX
set_option maxRecDepth 100000
set_option maxHeartbeats 32000000
set_option linter.unusedVariables false
set_option linter.unusedSimpArgs false
namespace Go.Proofs.YtkbcnacjaakleaaGreatDoor
open Go.RowKit

theorem table_any {f : Nat} (hC : Con f) (w : World) (r : Nat) (q : Option Addr) (c : Nat) (z : Wz) (s : Ps) (h : RdAt w r q c z s) (hp : 1 ≤ s.p) (hf : 10 * (z.ws.length - s.p) + 8 ≤ f) :
  Calls Tryz.prog 275 #[.pointer (some ⟨r, 0, none⟩) ] w (RdR (EncN w) w r q c z (tableR z (pz z f) s)) := by
 obtain ⟨res, hres⟩ : ∃ res, tableR z (pz z f) s = res := ⟨_, rfl⟩
 rw [hres]
 obtain ⟨re0, hre⟩ : ∃ re, withinR z (fun s => itemL z (pz z f) (z.ws.length + 1) s []) s = re := ⟨_, rfl⟩
 unfold tableR at hres
 rw [hre] at hres
 have H0 := (((St.start h).newK (rBx r)).newK ndZ).newK (ndBx (.int .i64 18) (.string ⟨#[]⟩) (.string ⟨#[]⟩) (.int .i64 0) (.slice none 0 0) (.slice none 0 0))
 simp only [size_alloc] at H0
 have hF : ∀ (args : Array Value) (w : World), (callFunc 309 args).run Tryz.prog w = .ok (.enter 309 args) w := fun _ _ => rfl
 have hrb := one_blk (H0.blk (b := w.heap.size) (t := 86) (cs := #[.pointer (some ⟨r, 0, none⟩)]) (by simp))
 have cW := within_any (G := GK w r q c z [(w.heap.size + 1, ndZ), (w.heap.size, rBx r)] (w.heap.size + 1 + 1) (.int .i64 18) (.string ⟨#[]⟩) (.string ⟨#[]⟩) (.int .i64 0) (.slice none 0 0)) H0 309 #[.pointer (some ⟨w.heap.size, 0, none⟩), .pointer (some ⟨w.heap.size + 1 + 1, 0, none⟩)] hF (fun s => itemL z (pz z f) (z.ws.length + 1) s []) hp
  (fun W' hW' => table1_any hC (by intro p hp; simp at hp; rcases hp with hp | hp <;> rw [hp] <;> simp <;> omega) (by simp) hW' hf) (fun x s' hx => (itemL_ge (pz_adv z f) _ _ _ _ _ hx).2.2) (fun x s' W' hg => hg.opn (by have := h.op; omega))
 rw [hre] at cW
 have hlow := h.lt
 have CW := Lib.hid cW
 have HR := Lib.hid hres
 clear hre h hC H0 cW hres
 go_enter Tryz.func275, Tryz.ntmps275
 go_wp2_with fail
 refine CW.out.mono ?_
 intro e w1 hE
 cases re0 with
 | error y =>
  obtain ⟨rfl, o1⟩ := hE.no rfl
  have HR2 := Lib.hid (show res = .error y from HR.out.symm)
  clear hE CW HR
  go_wp2_with fail
  exact ⟨rfl, .mk0 HR2.out o1⟩
 | ok y =>
  obtain ⟨l, s1⟩ := y
  obtain ⟨rfl, qv, cv, S1⟩ := hE.yes rfl
  have HR2 := Lib.hid (show (match wantP z s1 [125] with | .error e => .error e | .ok (_, s2) => .ok (ndK 18 l, s2)) = res from HR.out)
  have HS1 := Lib.hid S1
  have hrb1 := one_blk (S1.blk (b := w.heap.size) (t := 86) (cs := #[.pointer (some ⟨r, 0, none⟩)]) (by simp))
  clear hE CW S1 HR hrb
  go_wp2_with fail
  refine (want_any w1 r q c z s1 [125] HS1.out.rd).mono ?_
  intro e w2 hE
  cases hx : wantP z s1 [125] with
  | error y =>
   obtain ⟨rfl, o2⟩ := hE.no hx
   have HR3 := Lib.hid (show res = .error y by rw [← HR2.out, hx])
   clear hE hx
   go_wp2_with fail
   exact ⟨rfl, HS1.out.giv HR3.out o2⟩
  | ok y =>
   obtain ⟨u, s2⟩ := y
   obtain ⟨v, rfl, hv, r2, o2⟩ := hE.yes hx
   have HR3 := Lib.hid (show res = .ok (ndK 18 l, s2) by rw [← HR2.out, hx])
   have S1 := Lib.hid (HS1.out.call o2 r2)
   obtain ⟨c0, c1, c2, c3, c4, c5, _⟩ := S1.out.six
   obtain ⟨_, _, _, _, _, _, f0, f1, f2, f3, f4, f5⟩ := S1.out.swap.six
   have hlt := (S1.out.fst (b := w.heap.size + 1) (o := ndZ) (by simp)).2
   obtain ⟨m, hm⟩ : ∃ m, l.length = m := ⟨_, rfl⟩
   have HM := Lib.hid hm
   rw [hm] at c5
   clear hE hx hrb1 hv r2 o2 hm HS1
   go_wp2_with fail
   exact bodyPost_ret (v := ndV (ndK 18 l) (.slice none 0 0) (.slice qv m cv)) (by simp [results, Tryz.results275, go_sem, *, ndK_k, ndK_name, ndK_text, ndK_n]) rfl (S1.out.swap.fin (by intro p hp; simp at hp; rcases hp with hp | hp <;> rw [hp] <;> simp) _ _ HR3.out fun W' hW' => PtAt.mk _ _ 18 0 _ _ (PtAt.tx0 _ _) (by rw [← HM.out]; exact hW'.pt (List.mem_cons_self ..)))
theorem operandR_int {z : Wz} {r : Pz} {s : Ps} {x : Wd} (h : kindW z s.p 2 = some x) : operandR z r s = .ok ((ndI x.n, false), ⟨s.p + 1, s.o⟩) := by unfold operandR; rw [h]
theorem operandR_text {z : Wz} {r : Pz} {s : Ps} {x : Wd} (h2 : kindW z s.p 2 = none) (h : kindW z s.p 3 = some x) : operandR z r s = .ok ((ndT ⟨x.t.toArray⟩, false), ⟨s.p + 1, s.o⟩) := by unfold operandR; rw [h2, h]
theorem operandR_call {z : Wz} {r : Pz} {s : Ps} {x : Wd} (h2 : kindW z s.p 2 = none) (h3 : kindW z s.p 3 = none) (h : kindW z s.p 0 = some x) (hb : isW z (s.p + 1) [40] = true) :
  operandR z r s = (match callN z r ⟨x.t.toArray⟩ ⟨s.p + 2, s.o⟩ with | .error e => .error e | .ok (n, s1) => .ok ((n, true), s1)) := by unfold operandR; rw [h2, h3, h]; simp only; rw [if_pos hb]; rfl
theorem operandR_name {z : Wz} {r : Pz} {s : Ps} {x : Wd} (h2 : kindW z s.p 2 = none) (h3 : kindW z s.p 3 = none) (h : kindW z s.p 0 = some x) (hb : isW z (s.p + 1) [40] = false) :
  operandR z r s = .ok ((ndS 15 ⟨x.t.toArray⟩ [], true), ⟨s.p + 1, s.o⟩) := by unfold operandR; rw [h2, h3, h]; simp only; rw [if_neg (by rw [hb]; decide)]
theorem operandR_rest {z : Wz} {r : Pz} {s : Ps} (h2 : kindW z s.p 2 = none) (h3 : kindW z s.p 3 = none) (h : kindW z s.p 0 = none) :
  operandR z r s = (if isW z s.p tNil then .ok ((ndK 10 [], false), ⟨s.p + 1, s.o⟩)
    else if isW z s.p tTrue then .ok ((ndK 11 [], false), ⟨s.p + 1, s.o⟩)
    else if isW z s.p tFalse then .ok ((ndK 12 [], false), ⟨s.p + 1, s.o⟩)
    else if isW z s.p [40] then (match bracketR z r [41] ⟨s.p + 1, s.o⟩ with | .error e => .error e | .ok (n, s1) => .ok ((n, true), s1))
    else match wantP z s [123] with
     | .error e => .error e
     | .ok (_, s1) => match tableR z r s1 with | .error e => .error e | .ok (n, s2) => .ok ((n, false), s2)) := by unfold operandR; rw [h2, h3, h]; rfl
abbrev EncNB (w : World) : Nd × Bool → Value → World → Prop := fun x v W => ∃ vn, v = .tuple #[vn, .bool x.2] ∧ EncN w x.1 vn W
theorem ndS_k (k : Int) (s : ByteArray) (l : List Nd) : (ndS k s l).k = k := rfl
theorem ndS_name (k : Int) (s : ByteArray) (l : List Nd) : (ndS k s l).name = s := rfl
theorem ndS_text (k : Int) (s : ByteArray) (l : List Nd) : (ndS k s l).text = ⟨#[]⟩ := rfl
theorem ndS_n (k : Int) (s : ByteArray) (l : List Nd) : (ndS k s l).n = 0 := rfl
theorem ndI_k (n : Int) : (ndI n).k = 13 := rfl
theorem ndI_name (n : Int) : (ndI n).name = ⟨#[]⟩ := rfl
theorem ndI_text (n : Int) : (ndI n).text = ⟨#[]⟩ := rfl
theorem ndI_n (n : Int) : (ndI n).n = n := rfl
theorem St.finB {w W : World} {r : Nat} {q : Option Addr} {c : Nat} {z : Wz} {s : Ps} {K : List (Nat × Obj)} {N : List Pt} {lv tv : Value} {l : List Nd} {tl : List ByteArray} {b : Nat} {res : PR (Nd × Bool)} (h : St w W r q c z s ((b, ndZ) :: K) N lv l tv tl) (hne : ∀ p ∈ K, p.1 ≠ b) {x : Nd} {may : Bool} (nv lv' : Value) (hr : res = .ok ((x, may), s))
  (hp : ∀ W', St w W' r q c z s ((b, ndBx (.int .i64 x.k) (.string x.name) (.string x.text) (.int .i64 x.n) nv lv') :: K) N lv l tv tl → PtAt (w.heap.size ≤ ·) W' (.nd (ndV x nv lv') x)) :
  RdR (EncNB w) w r q c z res (.returned (.tuple #[ndV x nv lv', .bool may])) (put6 W b (.int .i64 x.k) (.string x.name) (.string x.text) (.int .i64 x.n) nv lv') := by
 have S1 := h.set6 hne (.int .i64 x.k) (.string x.name) (.string x.text) (.int .i64 x.n) nv lv'
 exact .mk1 hr S1.only ⟨_, rfl, hp _ S1⟩ S1.rd
theorem operand_any {f : Nat} (hC : Con f) (w : World) (r : Nat) (q : Option Addr) (c : Nat) (z : Wz) (s : Ps) (h : RdAt w r q c z s) (hf : 10 * (z.ws.length - s.p) ≤ f) :
  Calls Tryz.prog 235 #[.pointer (some ⟨r, 0, none⟩)] w (RdR (EncNB w) w r q c z (operandR z (pz z f) s)) := by
 obtain ⟨res, hres⟩ : ∃ res, operandR z (pz z f) s = res := ⟨_, rfl⟩
 rw [hres]
 have HC := Lib.hid hC
 have H0 := Lib.hid ((St.start h).newK ndZ)
 have hlow := h.lt
 have hle := h.le
 have hop := h.op
 cases h2 : kindW z s.p 2 with
 | some x =>
  rw [operandR_int h2] at hres
  have HR := Lib.hid hres.symm
  have cK := kind_yes (w.alloc ndZ) r q c z s 2 x H0.out.rd h2
  clear hres h hC h2
  obtain ⟨k, t, n, a⟩ := x
  go_enter Tryz.func235, Tryz.ntmps235
  go_wp2_with fail
  refine cK.mono ?_
  rintro e w1 ⟨rfl, r1, o1⟩
  have S1 := Lib.hid ((H0.out.call o1 r1).newbox (.int .i64 k) [strV t, .int .i64 n, .int .i64 a] 138)
  have x2 := (S1.out.pts _ (List.mem_cons_self ..)).2 2 _ rfl
  obtain ⟨_, _, _, _, _, _, f0, f1, f2, f3, f4, f5⟩ := S1.out.six
  have hlt := (S1.out.fst (List.mem_cons_self ..)).2
  clear r1 o1 cK H0
  go_wp2_with fail
  exact bodyPost_ret (v := .tuple #[ndV (ndI n) (.slice none 0 0) (.slice none 0 0), .bool false]) (by simp [results, Tryz.results235, go_sem, *, ndI_k, ndI_name, ndI_text, ndI_n]) rfl (S1.out.finB (by intro p hp; cases hp) (x := ndI n) _ _ HR.out fun W' hW' => PtAt.mk _ _ 13 n _ _ (PtAt.tx0 _ _) (PtAt.kd0 _ _))
 | none =>
  have cK2 := Lib.hid (kind_no (w.alloc ndZ) r q c z s 2 H0.out.rd h2)
  cases h3 : kindW z s.p 3 with
  | some x =>
   rw [operandR_text h2 h3] at hres
   have HR := Lib.hid hres.symm
   have H3 := Lib.hid h3
   clear hres h hC h2 h3
   obtain ⟨k, t, n, a⟩ := x
   go_enter Tryz.func235, Tryz.ntmps235
   go_wp2_with fail
   refine cK2.out.mono ?_
   rintro e w1 ⟨rfl, e1⟩
   have S1 := Lib.hid ((H0.out.ext e1).newbox (.int .i64 0) [.string ⟨#[]⟩, .int .i64 0, .int .i64 0] 138)
   clear e1 H0 cK2
   go_wp2_with fail
   refine (kind_yes _ r q c z s 3 _ S1.out.rd H3.out).mono ?_
   rintro e w2 ⟨rfl, r2, o2⟩
   have S2 := Lib.hid ((S1.out.call o2 r2).newbox (.int .i64 k) [strV t, .int .i64 n, .int .i64 a] 138)
   have x2 := (S2.out.pts _ (List.mem_cons_self ..)).2 1 _ rfl
   obtain ⟨_, _, _, _, _, _, f0, f1, f2, f3, f4, f5⟩ := S2.out.six
   have hlt := (S2.out.fst (List.mem_cons_self ..)).2
   clear r2 o2 S1
   go_wp2_with fail
   exact bodyPost_ret (v := .tuple #[ndV (ndT ⟨t.toArray⟩) (.slice none 0 0) (.slice none 0 0), .bool false]) (by simp [results, Tryz.results235, go_sem, *, ndT_k, ndT_name, ndT_text, ndT_n]) rfl (S2.out.finB (by intro p hp; cases hp) (x := ndT ⟨t.toArray⟩) _ _ HR.out fun W' hW' => PtAt.mk _ _ 14 0 _ _ (PtAt.tx0 _ _) (PtAt.kd0 _ _))
  | none =>
   have cK3 := Lib.hid h3
   cases h0 : kindW z s.p 0 with
   | some x =>
    have hlt0 := kindW_lt h0
    have H00 := Lib.hid h0
    cases hb : isW z (s.p + 1) [40] with
    | true =>
     rw [operandR_call h2 h3 h0 hb] at hres
     have HR := Lib.hid hres
     have HB := Lib.hid hb
     have hltb := isW_lt hb
     clear hres h hC h2 h3 h0 hb
     obtain ⟨k, t, n, a⟩ := x
     go_enter Tryz.func235, Tryz.ntmps235
     go_wp2_with fail
     refine cK2.out.mono ?_
     rintro e w1 ⟨rfl, e1⟩
     have S1 := Lib.hid ((H0.out.ext e1).newbox (.int .i64 0) [.string ⟨#[]⟩, .int .i64 0, .int .i64 0] 138)
     clear e1 H0 cK2
     go_wp2_with fail
     refine (kind_no _ r q c z s 3 S1.out.rd cK3.out).mono ?_
     rintro e w2 ⟨rfl, e2⟩
     have S2 := Lib.hid ((S1.out.ext e2).newbox (.int .i64 0) [.string ⟨#[]⟩, .int .i64 0, .int .i64 0] 138)
     clear e2 S1
     go_wp2_with fail
     refine (kind_yes _ r q c z s 0 _ S2.out.rd H00.out).mono ?_
     rintro e w3 ⟨rfl, r3, o3⟩
     have S3 := Lib.hid ((S2.out.call o3 r3).newbox (.int .i64 k) [strV t, .int .i64 n, .int .i64 a] 138)
     clear r3 o3 S2
     go_wp2_with fail
     generalize w3.alloc (.cells #[.int .i64 k, strV t, .int .i64 n, .int .i64 a] 138) = W3 at *
     have cT := take_any W3 r q c z ⟨s.p + 1, s.o⟩ [40] S3.out.rd
     rw [HB.out, skipP_yes HB.out] at cT
     refine cT.mono ?_
     rintro e w4 ⟨rfl, r4, o4⟩
     have S4 := Lib.hid (S3.out.call o4 r4)
     have x1 := (S4.out.pts _ (List.mem_cons_self ..)).2 1 _ rfl
     clear r4 o4 S3 cT
     go_wp2_with fail
     refine (call_any HC.out w4 r q c z ⟨s.p + 1 + 1, s.o⟩ ⟨t.toArray⟩ S4.out.rd (by simp only; omega) (by simp only; omega)).mono ?_
     intro e w5 hE
     have HR := Lib.hid (show (match callN z (pz z f) ⟨t.toArray⟩ ⟨s.p + 1 + 1, s.o⟩ with | .error e => .error e | .ok (n, s1) => .ok ((n, true), s1)) = res from HR.out)
     cases hx : callN z (pz z f) ⟨t.toArray⟩ ⟨s.p + 1 + 1, s.o⟩ with
     | error y =>
      obtain ⟨rfl, o5⟩ := hE.no hx
      have HR2 := Lib.hid (show res = .error y by rw [← HR.out, hx])
      clear hE hx
      go_wp2_with fail
      exact ⟨rfl, .mk0 HR2.out (S4.out.only.trans o5)⟩
     | ok y =>
      obtain ⟨x, s1⟩ := y
      obtain ⟨v, rfl, hv, r5, o5⟩ := hE.yes hx
      have HR2 := Lib.hid (show res = .ok ((x, true), s1) by rw [← HR.out, hx])
      obtain ⟨qn, mn, ql, ml, rfl⟩ := EncN.open hv
      have S5 := Lib.hid (S4.out.got o5 r5 hv)
      obtain ⟨_, _, _, _, _, _, f0, f1, f2, f3, f4, f5⟩ := S5.out.six
      have hlt := (S5.out.fst (List.mem_cons_self ..)).2
      obtain ⟨nl, hnl⟩ : ∃ n, x.names.length = n := ⟨_, rfl⟩
      obtain ⟨kl, hkl⟩ : ∃ n, x.kids.length = n := ⟨_, rfl⟩
      rw [hnl, hkl] at S5 ⊢
      clear hE hx r5 o5 hv hnl hkl S4
      go_wp2_with fail
      exact bodyPost_ret (v := .tuple #[ndV x (.slice qn nl mn) (.slice ql kl ml), .bool true]) (by simp [results, Tryz.results235, go_sem, *]) rfl (S5.out.finB (by intro p hp; cases hp) (x := x) _ _ HR2.out fun W' hW' => hW'.pt (List.mem_cons_self ..))
    | false =>
     rw [operandR_name h2 h3 h0 hb] at hres
     have HR := Lib.hid hres.symm
     have HB := Lib.hid hb
     clear hres h hC h2 h3 h0 hb
     obtain ⟨k, t, n, a⟩ := x
     go_enter Tryz.func235, Tryz.ntmps235
     go_wp2_with fail
     refine cK2.out.mono ?_
     rintro e w1 ⟨rfl, e1⟩
     have S1 := Lib.hid ((H0.out.ext e1).newbox (.int .i64 0) [.string ⟨#[]⟩, .int .i64 0, .int .i64 0] 138)
     clear e1 H0 cK2
     go_wp2_with fail
     refine (kind_no _ r q c z s 3 S1.out.rd cK3.out).mono ?_
     rintro e w2 ⟨rfl, e2⟩
     have S2 := Lib.hid ((S1.out.ext e2).newbox (.int .i64 0) [.string ⟨#[]⟩, .int .i64 0, .int .i64 0] 138)
     clear e2 S1
     go_wp2_with fail
     refine (kind_yes _ r q c z s 0 _ S2.out.rd H00.out).mono ?_
     rintro e w3 ⟨rfl, r3, o3⟩
     have S3 := Lib.hid ((S2.out.call o3 r3).newbox (.int .i64 k) [strV t, .int .i64 n, .int .i64 a] 138)
     clear r3 o3 S2
     go_wp2_with fail
     generalize w3.alloc (.cells #[.int .i64 k, strV t, .int .i64 n, .int .i64 a] 138) = W3 at *
     have cT := take_any W3 r q c z ⟨s.p + 1, s.o⟩ [40] S3.out.rd
     rw [HB.out, skipP_no HB.out] at cT
     refine cT.mono ?_
     rintro e w4 ⟨rfl, r4, o4⟩
     have S4 := Lib.hid (S3.out.call o4 r4)
     have x1 := (S4.out.pts _ (List.mem_cons_self ..)).2 1 _ rfl
     obtain ⟨_, _, _, _, _, _, f0, f1, f2, f3, f4, f5⟩ := S4.out.six
     have hlt := (S4.out.fst (List.mem_cons_self ..)).2
     clear r4 o4 S3 cT
     go_wp2_with fail
     exact bodyPost_ret (v := .tuple #[ndV (ndS 15 ⟨t.toArray⟩ []) (.slice none 0 0) (.slice none 0 0), .bool true]) (by simp [results, Tryz.results235, go_sem, *, ndS_k, ndS_name, ndS_text, ndS_n]) rfl (S4.out.finB (by intro p hp; cases hp) (x := ndS 15 ⟨t.toArray⟩ []) _ _ HR.out fun W' hW' => PtAt.mk _ _ 15 0 _ _ (PtAt.tx0 _ _) (PtAt.kd0 _ _))
   | none =>
    rw [operandR_rest h2 h3 h0] at hres
    have H00 := Lib.hid h0
    have HR := Lib.hid hres
    clear hres h hC h2 h3 h0
    go_enter Tryz.func235, Tryz.ntmps235
    go_wp2_with fail
    refine cK2.out.mono ?_
    rintro e w1 ⟨rfl, e1⟩
    have S1 := Lib.hid ((H0.out.ext e1).newbox (.int .i64 0) [.string ⟨#[]⟩, .int .i64 0, .int .i64 0] 138)
    clear e1 H0 cK2
    go_wp2_with fail
    refine (kind_no _ r q c z s 3 S1.out.rd cK3.out).mono ?_
    rintro e w2 ⟨rfl, e2⟩
    have S2 := Lib.hid ((S1.out.ext e2).newbox (.int .i64 0) [.string ⟨#[]⟩, .int .i64 0, .int .i64 0] 138)
    clear e2 S1
    go_wp2_with fail
    refine (kind_no _ r q c z s 0 S2.out.rd H00.out).mono ?_
    rintro e w3 ⟨rfl, e3⟩
    have S3 := Lib.hid ((S2.out.ext e3).newbox (.int .i64 0) [.string ⟨#[]⟩, .int .i64 0, .int .i64 0] 138)
    clear e3 S2
    go_wp2_with fail
    generalize w3.alloc (.cells #[.int .i64 0, .string ⟨#[]⟩, .int .i64 0, .int .i64 0] 138) = W3 at *
    have c0 := take_any W3 r q c z s tNil S3.out.rd
    cases hb0 : isW z s.p tNil with
    | true =>
     rw [hb0, skipP_yes hb0] at c0
     have HR2 := Lib.hid (show res = .ok ((ndK 10 [], false), ⟨s.p + 1, s.o⟩) by
      rw [← HR.out]
      rw [if_pos hb0])
     clear hb0
     refine c0.mono ?_
     rintro e w4 ⟨rfl, r4, o4⟩
     have S4 := Lib.hid (S3.out.call o4 r4)
     obtain ⟨_, _, _, _, _, _, f0, f1, f2, f3, f4, f5⟩ := S4.out.six
     have hlt := (S4.out.fst (List.mem_cons_self ..)).2
     clear r4 o4 S3 c0
     go_wp2_with fail
     exact bodyPost_ret (v := .tuple #[ndV (ndK 10 []) (.slice none 0 0) (.slice none 0 0), .bool false]) (by simp [results, Tryz.results235, go_sem, *, ndK_k, ndK_name, ndK_text, ndK_n]) rfl (S4.out.finB (by intro p hp; cases hp) (x := ndK 10 []) _ _ HR2.out fun W' hW' => PtAt.mk _ _ 10 0 _ _ (PtAt.tx0 _ _) (PtAt.kd0 _ _))
    | false =>
     rw [hb0, skipP_no hb0] at c0
     have HB0 := Lib.hid hb0
     clear hb0
     refine c0.mono ?_
     rintro e wn0 ⟨rfl, r4, o4⟩
     have Sn0 := Lib.hid (S3.out.call o4 r4)
     clear r4 o4 S3 c0
     go_wp2_with fail
     have c1 := take_any wn0 r q c z s tTrue Sn0.out.rd
     cases hb1 : isW z s.p tTrue with
     | true =>
      rw [hb1, skipP_yes hb1] at c1
      have HR2 := Lib.hid (show res = .ok ((ndK 11 [], false), ⟨s.p + 1, s.o⟩) by
       rw [← HR.out]
       rw [if_neg (by rw [HB0.out]; decide)]; rw [if_pos hb1])
      clear hb1
      refine c1.mono ?_
      rintro e w4 ⟨rfl, r4, o4⟩
      have S4 := Lib.hid (Sn0.out.call o4 r4)
      obtain ⟨_, _, _, _, _, _, f0, f1, f2, f3, f4, f5⟩ := S4.out.six
      have hlt := (S4.out.fst (List.mem_cons_self ..)).2
      clear r4 o4 Sn0 c1
      go_wp2_with fail
      exact bodyPost_ret (v := .tuple #[ndV (ndK 11 []) (.slice none 0 0) (.slice none 0 0), .bool false]) (by simp [results, Tryz.results235, go_sem, *, ndK_k, ndK_name, ndK_text, ndK_n]) rfl (S4.out.finB (by intro p hp; cases hp) (x := ndK 11 []) _ _ HR2.out fun W' hW' => PtAt.mk _ _ 11 0 _ _ (PtAt.tx0 _ _) (PtAt.kd0 _ _))
     | false =>
      rw [hb1, skipP_no hb1] at c1
      have HB1 := Lib.hid hb1
      clear hb1
      refine c1.mono ?_
      rintro e wn1 ⟨rfl, r4, o4⟩
      have Sn1 := Lib.hid (Sn0.out.call o4 r4)
      clear r4 o4 Sn0 c1
      go_wp2_with fail
      have c2 := take_any wn1 r q c z s tFalse Sn1.out.rd
      cases hb2 : isW z s.p tFalse with
      | true =>
       rw [hb2, skipP_yes hb2] at c2
       have HR2 := Lib.hid (show res = .ok ((ndK 12 [], false), ⟨s.p + 1, s.o⟩) by
        rw [← HR.out]
        rw [if_neg (by rw [HB0.out]; decide)]; rw [if_neg (by rw [HB1.out]; decide)]; rw [if_pos hb2])
       clear hb2
       refine c2.mono ?_
       rintro e w4 ⟨rfl, r4, o4⟩
       have S4 := Lib.hid (Sn1.out.call o4 r4)
       obtain ⟨_, _, _, _, _, _, f0, f1, f2, f3, f4, f5⟩ := S4.out.six
       have hlt := (S4.out.fst (List.mem_cons_self ..)).2
       clear r4 o4 Sn1 c2
       go_wp2_with fail
       exact bodyPost_ret (v := .tuple #[ndV (ndK 12 []) (.slice none 0 0) (.slice none 0 0), .bool false]) (by simp [results, Tryz.results235, go_sem, *, ndK_k, ndK_name, ndK_text, ndK_n]) rfl (S4.out.finB (by intro p hp; cases hp) (x := ndK 12 []) _ _ HR2.out fun W' hW' => PtAt.mk _ _ 12 0 _ _ (PtAt.tx0 _ _) (PtAt.kd0 _ _))
      | false =>
       rw [hb2, skipP_no hb2] at c2
       have HB2 := Lib.hid hb2
       clear hb2
       refine c2.mono ?_
       rintro e wn2 ⟨rfl, r4, o4⟩
       have Sn2 := Lib.hid (Sn1.out.call o4 r4)
       clear r4 o4 Sn1 c2
       go_wp2_with fail
       have c3 := take_any wn2 r q c z s [40] Sn2.out.rd
       cases hb3 : isW z s.p [40] with
       | true =>
        rw [hb3, skipP_yes hb3] at c3
        have hlt3 := isW_lt hb3
        have HR1 := Lib.hid (show (match bracketR z (pz z f) [41] ⟨s.p + 1, s.o⟩ with | .error e => .error e | .ok (n, s1) => .ok ((n, true), s1)) = res by
         rw [← HR.out]
         rw [if_neg (by rw [HB0.out]; decide), if_neg (by rw [HB1.out]; decide), if_neg (by rw [HB2.out]; decide), if_pos hb3])
        clear hb3
        refine c3.mono ?_
        rintro e w4 ⟨rfl, r4, o4⟩
        have S4 := Lib.hid (Sn2.out.call o4 r4)
        clear r4 o4 Sn2 c3
        go_wp2_with fail
        refine (bracketed_any HC.out w4 r q c z ⟨s.p + 1, s.o⟩ [41] S4.out.rd (by simp only; omega) (by simp only; omega)).mono ?_
        intro e w5 hE
        cases hx : bracketR z (pz z f) [41] ⟨s.p + 1, s.o⟩ with
        | error y =>
         obtain ⟨rfl, o5⟩ := hE.no hx
         have HR2 := Lib.hid (show res = .error y by rw [← HR1.out, hx])
         clear hE hx
         go_wp2_with fail
         exact ⟨rfl, .mk0 HR2.out (S4.out.only.trans o5)⟩
        | ok y =>
         obtain ⟨x, s1⟩ := y
         obtain ⟨v, rfl, hv, r5, o5⟩ := hE.yes hx
         have HR2 := Lib.hid (show res = .ok ((x, true), s1) by rw [← HR1.out, hx])
         obtain ⟨qn, mn, ql, ml, rfl⟩ := EncN.open hv
         have S5 := Lib.hid (S4.out.got o5 r5 hv)
         obtain ⟨_, _, _, _, _, _, f0, f1, f2, f3, f4, f5⟩ := S5.out.six
         have hlt := (S5.out.fst (List.mem_cons_self ..)).2
         obtain ⟨nl, hnl⟩ : ∃ n, x.names.length = n := ⟨_, rfl⟩
         obtain ⟨kl, hkl⟩ : ∃ n, x.kids.length = n := ⟨_, rfl⟩
         rw [hnl, hkl] at S5 ⊢
         clear hE hx r5 o5 hv hnl hkl S4
         go_wp2_with fail
         exact bodyPost_ret (v := .tuple #[ndV x (.slice qn nl mn) (.slice ql kl ml), .bool true]) (by simp [results, Tryz.results235, go_sem, *]) rfl (S5.out.finB (by intro p hp; cases hp) (x := x) _ _ HR2.out fun W' hW' => hW'.pt (List.mem_cons_self ..))
       | false =>
        rw [hb3, skipP_no hb3] at c3
        have HR1 := Lib.hid (show (match wantP z s [123] with
            | .error e => .error e
            | .ok (_, s1) => match tableR z (pz z f) s1 with | .error e => .error e | .ok (n, s2) => .ok ((n, false), s2)) = res by
         rw [← HR.out]
         rw [if_neg (by rw [HB0.out]; decide), if_neg (by rw [HB1.out]; decide), if_neg (by rw [HB2.out]; decide), if_neg (by rw [hb3]; decide)])
        clear hb3
        refine c3.mono ?_
        rintro e w4 ⟨rfl, r4, o4⟩
        have S4 := Lib.hid (Sn2.out.call o4 r4)
        clear r4 o4 Sn2 c3
        go_wp2_with fail
        refine (want_any w4 r q c z s [123] S4.out.rd).mono ?_
        intro e w5 hE
        cases hx : wantP z s [123] with
        | error y =>
         obtain ⟨rfl, o5⟩ := hE.no hx
         have HR2 := Lib.hid (show res = .error y by rw [← HR1.out, hx])
         clear hE hx
         go_wp2_with fail
         exact ⟨rfl, .mk0 HR2.out (S4.out.only.trans o5)⟩
        | ok y =>
         obtain ⟨u, s1⟩ := y
         obtain ⟨v, rfl, hv, r5, o5⟩ := hE.yes hx
         have HR3 := Lib.hid (show (match tableR z (pz z f) s1 with | .error e => .error e | .ok (n, s2) => .ok ((n, false), s2)) = res by rw [← HR1.out, hx])
         have hg := (want_gt hx).1
         have hg2 := (want_gt hx).2.1
         have S6 := Lib.hid (S4.out.call o5 r5)
         clear hE hx r5 o5 hv S4
         go_wp2_with fail
         refine (table_any HC.out w5 r q c z s1 S6.out.rd (by omega) (by omega)).mono ?_
         intro e w6 hE
         cases hx : tableR z (pz z f) s1 with
         | error y =>
          obtain ⟨rfl, o5⟩ := hE.no hx
          have HR2 := Lib.hid (show res = .error y by rw [← HR3.out, hx])
          clear hE hx
          go_wp2_with fail
          exact ⟨rfl, .mk0 HR2.out (S6.out.only.trans o5)⟩
         | ok y =>
          obtain ⟨x, s2⟩ := y
          obtain ⟨v, rfl, hv, r5, o5⟩ := hE.yes hx
          have HR2 := Lib.hid (show res = .ok ((x, false), s2) by rw [← HR3.out, hx])
          obtain ⟨qn, mn, ql, ml, rfl⟩ := EncN.open hv
          have S5 := Lib.hid (S6.out.got o5 r5 hv)
          obtain ⟨_, _, _, _, _, _, f0, f1, f2, f3, f4, f5⟩ := S5.out.six
          have hlt := (S5.out.fst (List.mem_cons_self ..)).2
          obtain ⟨nl, hnl⟩ : ∃ n, x.names.length = n := ⟨_, rfl⟩
          obtain ⟨kl, hkl⟩ : ∃ n, x.kids.length = n := ⟨_, rfl⟩
          rw [hnl, hkl] at S5 ⊢
          clear hE hx r5 o5 hv hnl hkl S6
          go_wp2_with fail
          exact bodyPost_ret (v := .tuple #[ndV x (.slice qn nl mn) (.slice ql kl ml), .bool false]) (by simp [results, Tryz.results235, go_sem, *]) rfl (S5.out.finB (by intro p hp; cases hp) (x := x) _ _ HR2.out fun W' hW' => hW'.pt (List.mem_cons_self ..))
end Go.Proofs.YtkbcnacjaakleaaGreatDoor
