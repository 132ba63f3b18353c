/- table: a closure that gathers items. -/
import Derived.Test.YtkbcnacjaakleaaGreatDoorYP19
set_option maxRecDepth 100000
set_option maxHeartbeats 32000000
set_option linter.unusedVariables false
set_option linter.unusedSimpArgs false
namespace Go.Proofs.YtkbcnacjaakleaaGreatDoor
open Go.RowKit

theorem St.pushAt {w W : World} {r : Nat} {q : Option Addr} {c : Nat} {z : Wz} {s : Ps} {K : List (Nat × Obj)} {N : List Pt} {lv tv : Value} {l : List Nd} {tl : List ByteArray} (h : St w W r q c z s K N lv l tv tl) {x : Nd} {qn ql : Option Addr} {mn cn ml cl : Nat} (hx : Pt.nd (ndV x (.slice qn mn cn) (.slice ql ml cl)) x ∈ N) (hlen : l.length ≤ 2000000) (ty : TypeId) (b : Nat) (hb : ∀ j u, [Value.int .i64 x.k, .string x.name, .string x.text, .int .i64 x.n, .slice qn mn cn, .slice ql ml cl][j]? = some u → W.cell? ⟨b, j, none⟩ = some u) :
  ∃ v' W', AppRuns Tryz.prog 26 ty lv (.slice (some ⟨b, 0, none⟩) 1 1) W v' W' ∧
   St w W' r q c z s K N v' (l ++ [x]) tv tl := by
 have h1 := h
 obtain ⟨d, rows, hr1, hr2, hr3⟩ := h1.row.ex
 obtain ⟨d', nv', lv', he', ht', hk'⟩ := h1.pts _ hx
 obtain ⟨rfl, rfl⟩ : Value.slice qn mn cn = nv' ∧ Value.slice ql ml cl = lv' := by
  simp only [ndV, Value.agg.injEq] at he'
  have e4 := congrArg (fun a : Array Value => a[4]?) he'
  have e5 := congrArg (fun a : Array Value => a[5]?) he'
  simp at e4 e5
  exact ⟨by simpa using e4, by simpa using e5⟩
 obtain ⟨i0, hi, hz0, hz1, hz2⟩ := info_parts infoNd
 have hlr : rows.length = l.length := by rw [← hr1, List.length_map]
 obtain ⟨v', W', a1, a2, a3, _, a4⟩ := run_append_own_at (P := Tryz.prog) (w := W) w.heap.size 26 ty 28 i0 _ 6 96 Tryz.underlying26 hi hz0 hz1 hz2 rfl (by omega) lv rows.length (rows.flatMap ndC) hr2 ⟨b, 0, none⟩ 1 1
  [.int .i64 x.k, .string x.name, .string x.text, .int .i64 x.n, .slice qn mn cn, .slice ql ml cl] rfl (fun j u hu => by
   have hadd : (⟨b, 0, none⟩ : Addr).add j = ⟨b, 0 + j, none⟩ := by unfold Addr.add; split <;> simp_all
   rw [hadd, Nat.zero_add]
   exact hb j u hu) (by intro u hu; simp at hu; rcases hu with rfl | rfl | rfl | rfl | rfl | rfl <;> rfl) (by unfold maxLen; omega) (by omega) h1.le
 have hlow := h.low
 have hrow := h1.row.lt
 have hle := h.le
 have hold := h.row.lt
 -- a cell of a block that is not the row's
 have cell' : ∀ b o y, okS w K lv tv b → W.cell? ⟨b, o, none⟩ = some y → W'.cell? ⟨b, o, none⟩ = some y := fun b o y hbk hc => by
  have hlt := cell_lt hc
  exact (a3.cell_far ⟨b, o, none⟩ hlt (fun e => hbk.row b e.symm rfl)).trans hc
 have blk' : ∀ k, k < w.heap.size → W'.heap[k]? = W.heap[k]? := fun k hk => a3.block k (by omega) (fun e => by have := (hrow k e.symm).1; omega)
 have okk : ∀ b, b < W.heap.size → okS w K lv tv b → okS w K v' tv b := fun b hlt hbk => ⟨hbk.lo, hbk.box, fun y hy e => by
  rcases a4 with a4 | a4
  ·rw [a4] at hy; exact hbk.row y hy e
  ·rw [a4] at hy
   have := Option.some.inj hy
   omega, hbk.txt⟩
 have okk1 : ∀ b, b < W.heap.size → okS w K lv tv b → okS w K v' tv b := fun b hlt hbk => ⟨hbk.lo, hbk.box, fun y hy e => by
  rcases a4 with a4 | a4
  ·rw [a4] at hy; exact hbk.row y hy e
  ·rw [a4] at hy
   have := Option.some.inj hy
   omega, hbk.txt⟩
 obtain ⟨s0, h0⟩ := h.rd0
 refine ⟨v', W', ⟨a1⟩, ⟨h0.keep h1.rd (fun k hk => blk' k hk), h.rd0, ⟨a3.os.trans h1.only.os, a3.tape.trans h1.only.tape, a3.output.trans h1.only.output, Nat.le_trans h1.only.size a3.size, fun k hk hn => (blk' k hk).trans (h1.only.block k hk hn)⟩, fun p hp => ?_, fun p hp => ?_, ⟨⟨max d d', rows ++ [(x, .slice qn mn cn, .slice ql ml cl)], by simp [hr1], ?_, fun y hy => ?_⟩, fun y hy hm => ?_⟩, own_of_heap' a3 h1.txt (fun y hy => by
   obtain ⟨_, cs, hc⟩ := h1.txt.sort y hy
   intro e
   obtain ⟨cs', hc'⟩ := h1.row.sort y e
   rw [hc] at hc'
   injection Option.some.inj hc' with _ e2
   exact absurd e2 (by decide)), h1.tbox⟩⟩
 ·obtain ⟨b1, b3⟩ := h1.box p hp
  exact ⟨b1, (a3.block p.1 (Array.getElem?_eq_some_iff.1 b3).1 (fun e => h1.row.box p.1 e.symm (List.mem_map.2 ⟨p, hp, rfl⟩))).trans b3⟩
 ·exact (h1.pts p hp).keep cell' okk1
 ·show W'.ownsRow w.heap.size 28 6 v' (rows ++ [(x, Value.slice qn mn cn, Value.slice ql ml cl)]).length ((rows ++ [(x, Value.slice qn mn cn, Value.slice ql ml cl)]).flatMap ndC)
  rw [List.flatMap_append, List.length_append]
  simpa [ndC] using a2
 ·rcases List.mem_append.1 hy with hy | hy
  ·exact ⟨(hr3 y hy).1.keep cell' okk1, ((hr3 y hy).2.keep cell' okk1).upto (Nat.le_max_left _ _)⟩
  ·obtain rfl : y = (x, Value.slice qn mn cn, Value.slice ql ml cl) := by simpa using hy
   exact ⟨ht'.keep cell' okk1, (hk'.keep cell' okk1).upto (Nat.le_max_right _ _)⟩
 ·rcases a4 with a4 | a4
  ·rw [a4] at hy; exact h1.row.box y hy hm
  ·rw [a4] at hy
   obtain rfl := Option.some.inj hy
   obtain ⟨p, hp, e⟩ := List.mem_map.1 hm
   have := (Array.getElem?_eq_some_iff.1 (h1.box p hp).2).1
   omega
theorem itemL_end {z : Wz} {r : Pz} {k : Nat} {s : Ps} {acc : List Nd} (h : isW z s.p [125] = true) : itemL z r (k + 1) s acc = .ok (acc, s) := by unfold itemL; rw [if_pos h]
theorem itemL_err {z : Wz} {r : Pz} {k : Nat} {s : Ps} {acc : List Nd} {y : Int × Int} (h : isW z s.p [125] = false) (hf : itemR z r s = .error y) : itemL z r (k + 1) s acc = .error y := by unfold itemL; rw [if_neg (by rw [h]; decide), hf]
theorem itemL_more {z : Wz} {r : Pz} {k : Nat} {s s1 : Ps} {acc : List Nd} {x : Nd} (h : isW z s.p [125] = false) (hf : itemR z r s = .ok (x, s1)) (hc : (isW z s1.p [44] || isW z s1.p [59]) = true) : itemL z r (k + 1) s acc = itemL z r k ⟨s1.p + 1, s1.o⟩ (acc ++ [x]) := by
 conv => lhs; unfold itemL
 rw [if_neg (by rw [h]; decide), hf]; simp only; rw [if_pos hc]
theorem itemL_last {z : Wz} {r : Pz} {k : Nat} {s s1 : Ps} {acc : List Nd} {x : Nd} (h : isW z s.p [125] = false) (hf : itemR z r s = .ok (x, s1)) (hc : (isW z s1.p [44] || isW z s1.p [59]) = false) : itemL z r (k + 1) s acc = .ok (acc ++ [x], s1) := by
 conv => lhs; unfold itemL
 rw [if_neg (by rw [h]; decide), hf]; simp only; rw [if_neg (by rw [hc]; decide)]
abbrev z0N : Nd := ndK 0 []
theorem z0_pt (ok : Nat → Prop) (W : World) : PtAt ok W (.nd (ndV z0N (.slice none 0 0) (.slice none 0 0)) z0N) := PtAt.mk ok W 0 0 _ _ (PtAt.tx0 _ _) (PtAt.kd0 _ _)
theorem St.hd_mem {w W : World} {r : Nat} {q : Option Addr} {c : Nat} {z : Wz} {s : Ps} {K : List (Nat × Obj)} {N : List Pt} {p : Pt} {lv tv : Value} {l : List Nd} {tl : List ByteArray} (h : St w W r q c z s K (p :: N) lv l tv tl) : p ∈ p :: N := List.mem_cons_self ..
theorem St.tl_mem {w W : World} {r : Nat} {q : Option Addr} {c : Nat} {z : Wz} {s : Ps} {K : List (Nat × Obj)} {N : List Pt} {p p' : Pt} {lv tv : Value} {l : List Nd} {tl : List ByteArray} (h : St w W r q c z s K (p :: N) lv l tv tl) (hp : p' ∈ N) : p' ∈ p :: N := List.mem_cons_of_mem _ hp
theorem step_append_runs {P : Program} {w : World} {ops : Array Oper} {o : Oper} {a : Act} {K : Act → World → Prop} {Q : Exit → Act → World → Prop} {E : Prop} (hgd : o.guard = none) (s x : Operand) (t : TypeId)
  (ho : o.op = .call { callee := .builtin .append, args := #[s, x], argTypes := #[t, t] }) (v x' v' : Value) (w' : World) (hs : a.eval s = v) (hx : a.eval x = x')
  (hrun : AppRuns P t o.type v x' w v' w') (h : K (a.put o.dst v') w') :
  if Region.wanted o (yielded ops a.tmps) = true then Oper.wp P o a w K Q else E := by
 have hw : Region.wanted o (yielded ops a.tmps) = true := by simp [Region.wanted, hgd]
 rw [if_pos hw]
 unfold Oper.wp execOp
 simp only [ho, resolve, invoke, builtin, Sem.run_bind, Sem.run_pure, Result.andThen_ok, List.map_toArray, List.map_cons, List.map_nil, hs, hx, hrun.run]
 exact h
theorem GK.of {w W : World} {r : Nat} {q : Option Addr} {c : Nat} {z : Wz} {s : Ps} {K : List (Nat × Obj)} {nb : Nat} {N : List Pt} {x0 x1 x2 x3 x4 v : Value} {l : List Nd} (h : St w W r q c z s ((nb, ndBx x0 x1 x2 x3 x4 v) :: K) N v l (.slice none 0 0) []) : GK w r q c z K nb x0 x1 x2 x3 x4 l s W := by
 obtain ⟨qv, cv, rfl⟩ := h.row.slice
 exact ⟨qv, cv, h.close.sub (fun p hp => by
  obtain rfl : p = .kd (.slice qv l.length cv) l := by simpa using hp
  exact List.mem_cons_self ..)⟩
theorem table1_any {f : Nat} (hC : Con f) {w W : World} {r : Nat} {q : Option Addr} {c : Nat} {z : Wz} {s : Ps} {K : List (Nat × Obj)} {rb nb : Nat} {x0 x1 x2 x3 x4 : Value} (hne : ∀ p ∈ K, p.1 ≠ nb) (hrK : (rb, rBx r) ∈ K) (S : St w W r q c z s ((nb, ndBx x0 x1 x2 x3 x4 (.slice none 0 0)) :: K) [] (.slice none 0 0) [] (.slice none 0 0) []) (hf : 10 * (z.ws.length - s.p) + 8 ≤ f) :
  Calls Tryz.prog 309 #[.pointer (some ⟨rb, 0, none⟩), .pointer (some ⟨nb, 0, none⟩)] W (CloR (GK w r q c z K nb x0 x1 x2 x3 x4) w r (itemL z (pz z f) (z.ws.length + 1) s [])) := by
 obtain ⟨res, hres⟩ : ∃ res, itemL z (pz z f) (z.ws.length + 1) s [] = res := ⟨_, rfl⟩
 rw [hres]
 have HR := Lib.hid hres
 have HC := Lib.hid hC
 have HS := Lib.hid S
 clear hres S hC
 go_enter Tryz.func309, Tryz.ntmps309
 go_wp2_with fail
 go_loopw [2] (fun s2 wr => ∃ (k : Nat) (s' : Ps) (acc : List Nd) (v : Value), Hid (St w wr r q c z s' ((nb, ndBx x0 x1 x2 x3 x4 v) :: K) [] v acc (.slice none 0 0) []) ∧ Hid (itemL z (pz z f) k s' acc = res) ∧ z.ws.length - s'.p < k ∧ acc.length ≤ s'.p ∧ 10 * (z.ws.length - s'.p) + 8 ≤ f) (fun _ wr => z.ws.length - nxt wr r)
 case atStart => exact ⟨_, s, [], _, HS, HR, by omega, by simp, hf⟩
 case round =>
  obtain ⟨k, s', acc, v, ST, SP, hk, hacc, hfk⟩ := hrel
  obtain ⟨k, rfl⟩ : ∃ k', k = k' + 1 := ⟨k - 1, by omega⟩
  obtain ⟨qv, mv, cv, rfl⟩ : ∃ q m c, v = Value.slice q m c := by
   obtain ⟨q, c, e⟩ := ST.out.row.slice
   exact ⟨q, _, c, e⟩
  have hmv : Hid (mv = acc.length) := Lib.hid (by
   obtain ⟨q, c, e⟩ := ST.out.row.slice
   injection e)
  have hle := ST.out.rd.le
  have hlen := ST.out.rd.len
  have hnx := ST.out.nxt
  have hrb := one_blk (ST.out.blk (List.mem_cons_of_mem _ hrK))
  have cI := is_any wr r q c z s' [125] ST.out.rd
  cases hb : isW z s'.p [125] with
  | true =>
   rw [hb] at cI
   have HR2 := Lib.hid (show res = .ok (acc, s') by rw [← SP.out, itemL_end hb])
   clear hb
   go_wp2_with fail
   refine cI.mono ?_
   rintro e w1 ⟨rfl, e1⟩
   have S1 := Lib.hid (ST.out.ext e1)
   clear e1
   go_wp2_with fail
   go_end0
   exact .mk1 HR2.out (GK.of S1.out)
  | false =>
   rw [hb] at cI
   have HB := Lib.hid hb
   clear hb
   cases hx : itemR z (pz z f) s' with
   | error y =>
    have HX := Lib.hid hx
    have HR2 := Lib.hid (show res = .error y by rw [← SP.out, itemL_err HB.out hx])
    clear hx
    go_wp2_with fail
    refine cI.mono ?_
    rintro e w1 ⟨rfl, e1⟩
    have S1 := ST.out.ext e1
    have hrb := one_blk (S1.blk (List.mem_cons_of_mem _ hrK))
    obtain ⟨_, _, _, _, _, c5, _⟩ := S1.six
    have SCUR := Lib.hid S1.drew
    clear e1 cI ST S1
    rename_i hrb0 _
    go_wp2_with fail
    refine wp_region_gate (S := fun w' => w'.cell? ⟨nb, 5, none⟩ = some (.slice qv mv cv) ∧ w'.cell? ⟨rb, 0, none⟩ = some (.pointer (some ⟨r, 0, none⟩))) (g := 6) (by kernel_rfl) (⟨c5, hrb⟩) (fun hHeld => ?_)
    refine puG (i := 0) (v := ?_) ?_
    try simp only [Act.put, pzz]
    refine tkG (i := 1) (v := ?_) ?_
    try simp only [Act.put, pzz]
    refine tkG (i := 2) (v := ?_) ?_
    try simp only [Act.put, pzz]
    refine puG (i := 4) (v := ?_) ?_
    try simp only [Act.put, pzz]
    refine wpAnyG_ready (rs := [3, 5]) (by kernel_rfl) (by simp) ?_
    refine AllReadyG.held rfl (fun K hK => ?_) ?_
    ·skip
     go_simp
     refine (item_any HC.out _ r q c z s' SCUR.out.rd hfk).mono ?_
     intro e w3 hE
     obtain ⟨rfl, o3⟩ := hE.no HX.out
     exact ⟨rfl, .mk0 HR2.out (SCUR.out.only.trans o3)⟩
    ·skip
     refine AllReadyG.held rfl (fun K hK => ?_) AllReadyG.nil
     have SB := Lib.hid (SCUR.out.ext ((Ext.refl w1.drew).alloc (.cells #[.int .i64 0, .string ⟨#[]⟩, .string ⟨#[]⟩, .int .i64 0, .slice none 0 0, .slice none 0 0] 28)))
     clear SCUR
     have SCUR := SB
     go_simp
     clear hHeld
     refine hK.out _ _ ?_ (fun hHeld => ?_)
     focus (
      (try dsimp only)
      go_keep)
     clear hK K
     try simp only [Act.put, pzz]
     refine wpAnyG_ready (rs := [3]) (by kernel_rfl) (by simp) ?_
     refine AllReadyG.held rfl (fun K hK => ?_) AllReadyG.nil
     go_simp
     refine (item_any HC.out _ r q c z s' SCUR.out.rd hfk).mono ?_
     intro e w3 hE
     obtain ⟨rfl, o3⟩ := hE.no HX.out
     exact ⟨rfl, .mk0 HR2.out (SCUR.out.only.trans o3)⟩
   | ok y =>
    obtain ⟨x, s1⟩ := y
    have hgt := item_gt (pz_adv z f) _ _ _ hx
    have g1 := hgt.1
    have g2 := hgt.2.1
    have HX := Lib.hid hx
    clear hx hgt
    have hm0 : (0 : Int) ≤ (mv : Int) := by omega
    have hm1 : (mv : Int) < (mv : Int) + 1 := by omega
    have hm2 : mv < mv + 1 := by omega
    have haccl : acc.length ≤ 2000000 := by omega
    go_wp2_with fail
    refine cI.mono ?_
    rintro e w1 ⟨rfl, e1⟩
    have S1 := ST.out.ext e1
    have hrb1 := one_blk (S1.blk (List.mem_cons_of_mem _ hrK))
    obtain ⟨_, _, _, _, _, c5, _⟩ := S1.six
    have SCUR := Lib.hid S1.drew
    clear e1 cI ST S1 hrb
    have hrb := hrb1
    clear hrb1
    go_upto_region 1 with (fail)
    go_cut [] (fun wx => Hid (∃ v' N', St w wx r q c z s1 ((nb, ndBx x0 x1 x2 x3 x4 v') :: K) N' v' (acc ++ [x]) (.slice none 0 0) []))
    case first =>
     refine wp_region_gate (S := fun w' => w'.cell? ⟨nb, 5, none⟩ = some (.slice qv mv cv) ∧ w'.cell? ⟨rb, 0, none⟩ = some (.pointer (some ⟨r, 0, none⟩))) (g := 6) (by kernel_rfl) (⟨c5, hrb⟩) (fun hHeld => ?_)
     refine puG (i := 0) (v := ?_) ?_
     try simp only [Act.put, pzz]
     refine tkG (i := 1) (v := ?_) ?_
     try simp only [Act.put, pzz]
     refine tkG (i := 2) (v := ?_) ?_
     try simp only [Act.put, pzz]
     refine puG (i := 4) (v := ?_) ?_
     try simp only [Act.put, pzz]
     refine wpAnyG_ready (rs := [3, 5]) (by kernel_rfl) (by simp) ?_
     refine AllReadyG.held rfl (fun K hK => ?_) ?_
     ·skip
      go_simp
      refine (item_any HC.out _ r q c z s' SCUR.out.rd hfk).mono ?_
      intro e w3 hE
      obtain ⟨v2, rfl, hv, r3, o3⟩ := hE.yes HX.out
      obtain ⟨qn, mn, ql, ml, rfl⟩ := EncN.open hv
      have SB := Lib.hid (SCUR.out.got o3 r3 hv)
      obtain ⟨_, _, _, _, _, b5, _⟩ := SB.out.six
      have brb := one_blk (SB.out.blk (List.mem_cons_of_mem _ hrK))
      have NDM := Lib.hid (SB.out.hd_mem)
      (try (have BXM2 := Lib.hid (List.mem_cons_of_mem (Pt.nd (ndV x (.slice qn x.names.length mn) (.slice ql x.kids.length ml)) x) BXM.out); clear BXM; have BXM := BXM2; clear BXM2))
      clear SCUR hE r3 o3 hv
      have SCUR := SB
      clear SB
      clear hHeld
      refine hK.out _ _ (⟨b5, brb⟩) (fun hHeld => ?_)
      clear hK K
      try simp only [Act.put, pzz]
      refine wpAnyG_ready (rs := [5]) (by kernel_rfl) (by simp) ?_
      refine AllReadyG.held rfl (fun K hK => ?_) AllReadyG.nil
      have SB := Lib.hid (SCUR.out.newbox (.int .i64 0) [.string ⟨#[]⟩, .string ⟨#[]⟩, .int .i64 0, .slice none 0 0, .slice none 0 0] 28)
      have BXM := Lib.hid (SB.out.hd_mem)
      (try (have NDM2 := Lib.hid (SB.out.tl_mem NDM.out); clear NDM; have NDM := NDM2; clear NDM2))
      clear SCUR
      have SCUR := SB
      clear SB
      go_simp
      clear hHeld
      refine hK.out _ _ ?_ (fun hHeld => ?_)
      focus (
       (try dsimp only)
       go_keep)
      clear hK K
      try simp only [Act.put, pzz]
      refine wpAnyG_ready (rs := [6]) (by kernel_rfl) (by simp) ?_
      refine AllReadyG.free rfl (by kernel_rfl) (fun K hK => ?_) AllReadyG.nil
      obtain ⟨v', W4, hrun, S4⟩ := (SCUR.out.add (p := .nd (ndV z0N (.slice none 0 0) (.slice none 0 0)) z0N) (z0_pt _ _)).pushAt (x := z0N) (List.mem_cons_self ..) (by omega) 26 _ (fun j u hu => (SCUR.out.pts _ BXM.out).2 j u hu)
      obtain ⟨gb, cap, hv4, hgl, hfz, ⟨u0, u1, u2, u3, u4, u5, g0, g1, g2, g3, g4, g5⟩, hgK, hput⟩ := S4.last
      rw [← hmv.out] at hv4
      subst hv4
      have NDM3 := Lib.hid (S4.tl_mem NDM.out)
      have HRUN := Lib.hid hrun
      have SB := Lib.hid S4
      clear hrun S4 hput hgK hfz g0 g1 g2 g3 g4 g5 NDM BXM SCUR
      have SCUR := SB
      clear SB
      refine step_append_runs rfl _ _ 26 rfl _ _ _ _ rfl rfl HRUN.out ?_
      clear HRUN
      clear hHeld
      refine hK.out _ _ ?_
      clear hK K
      try simp only [Act.put, pzz]
      refine puG (i := 7) (v := ?_) ?_ (hS := fun h => absurd h (by decide))
      try simp only [Act.put, pzz]
      refine puG (i := 9) (v := ?_) ?_ (hS := fun h => absurd h (by decide))
      try simp only [Act.put, pzz]
      refine wpAnyG_ready (rs := [8, 10]) (by kernel_rfl) (by simp) ?_
      refine AllReadyG.free rfl (by kernel_rfl) (fun K hK => ?_) ?_
      ·skip
       obtain ⟨gb2, cap2, hv4, hgl2, hfz, ⟨u0, u1, u2, u3, u4, u5, g0, g1, g2, g3, g4, g5⟩, hgK, hput⟩ := SCUR.out.last
       simp only [Value.slice.injEq, Option.some.injEq, Addr.mk.injEq, and_true, true_and] at hv4
       obtain ⟨rfl, hv4⟩ := hv4
       have SB := hput x _ _ NDM3.out
       rw [← hmv.out] at SB g0 g1 g2 g3 g4 g5
       have z0 := hfz (mv * 6)
       have z1 := hfz (mv * 6 + 1)
       have z2 := hfz (mv * 6 + 2)
       have z3 := hfz (mv * 6 + 3)
       have z4 := hfz (mv * 6 + 4)
       have z5 := hfz (mv * 6 + 5)
       unfold put6at at SB
       have SB2 := Lib.hid SB
       clear hput hgK hfz SB SCUR hv4
       have SCUR := SB2
       clear SB2
       go_simp
       clear g0 g1 g2 g3 g4 g5 z0 z1 z2 z3 z4 z5 hgl2
       generalize ((((((W4.setCell ⟨gb, mv * 6, none⟩ (.int .i64 x.k)).setCell ⟨gb, mv * 6 + 1, none⟩ (.string x.name)).setCell ⟨gb, mv * 6 + 2, none⟩ (.string x.text)).setCell ⟨gb, mv * 6 + 3, none⟩ (.int .i64 x.n)).setCell ⟨gb, mv * 6 + 4, none⟩ (.slice qn x.names.length mn)).setCell ⟨gb, mv * 6 + 5, none⟩ (.slice ql x.kids.length ml)) = W5 at *
       refine hK.out _ _ ?_
       clear hK K
       try simp only [Act.put, pzz]
       refine wpAnyG_ready (rs := [10]) (by kernel_rfl) (by simp) ?_
       refine AllReadyG.free rfl (by kernel_rfl) (fun K hK => ?_) AllReadyG.nil
       obtain ⟨_, _, _, _, _, k5, _, _, _, _, _, m5⟩ := SCUR.out.six
       have l5 := (SCUR.out.fst (List.mem_cons_self ..)).2
       have SB := Lib.hid (SCUR.out.set5 hne (.slice (some ⟨gb, 0, none⟩) (mv + 1) cap))
       clear SCUR
       have SCUR := SB
       clear SB
       go_simp
       clear k5 m5 l5
       generalize W5.setCell ⟨nb, 5, none⟩ (.slice (some ⟨gb, 0, none⟩) (mv + 1) cap) = W6 at *
       refine hK.out _ _ ?_
       clear hK K
       try simp only [Act.put, pzz]
       refine wpAnyG_done (by kernel_rfl) ?_ _
       go_wp2_with fail
       go_meet
       exact Lib.hid ⟨_, _, SCUR.out⟩
      ·skip
       refine AllReadyG.free rfl (by kernel_rfl) (fun K hK => ?_) AllReadyG.nil
       obtain ⟨_, _, _, _, _, k5, _, _, _, _, _, m5⟩ := SCUR.out.six
       have l5 := (SCUR.out.fst (List.mem_cons_self ..)).2
       have SB := Lib.hid (SCUR.out.set5 hne (.slice (some ⟨gb, 0, none⟩) (mv + 1) cap))
       clear SCUR
       have SCUR := SB
       clear SB
       go_simp
       clear k5 m5 l5
       generalize W4.setCell ⟨nb, 5, none⟩ (.slice (some ⟨gb, 0, none⟩) (mv + 1) cap) = W5 at *
       refine hK.out _ _ ?_
       clear hK K
       try simp only [Act.put, pzz]
       refine wpAnyG_ready (rs := [8]) (by kernel_rfl) (by simp) ?_
       refine AllReadyG.free rfl (by kernel_rfl) (fun K hK => ?_) AllReadyG.nil
       obtain ⟨gb2, cap2, hv4, hgl2, hfz, ⟨u0, u1, u2, u3, u4, u5, g0, g1, g2, g3, g4, g5⟩, hgK, hput⟩ := SCUR.out.last
       simp only [Value.slice.injEq, Option.some.injEq, Addr.mk.injEq, and_true, true_and] at hv4
       obtain ⟨rfl, hv4⟩ := hv4
       have SB := hput x _ _ NDM3.out
       rw [← hmv.out] at SB g0 g1 g2 g3 g4 g5
       have z0 := hfz (mv * 6)
       have z1 := hfz (mv * 6 + 1)
       have z2 := hfz (mv * 6 + 2)
       have z3 := hfz (mv * 6 + 3)
       have z4 := hfz (mv * 6 + 4)
       have z5 := hfz (mv * 6 + 5)
       unfold put6at at SB
       have SB2 := Lib.hid SB
       clear hput hgK hfz SB SCUR hv4
       have SCUR := SB2
       clear SB2
       go_simp
       clear g0 g1 g2 g3 g4 g5 z0 z1 z2 z3 z4 z5 hgl2
       generalize ((((((W5.setCell ⟨gb, mv * 6, none⟩ (.int .i64 x.k)).setCell ⟨gb, mv * 6 + 1, none⟩ (.string x.name)).setCell ⟨gb, mv * 6 + 2, none⟩ (.string x.text)).setCell ⟨gb, mv * 6 + 3, none⟩ (.int .i64 x.n)).setCell ⟨gb, mv * 6 + 4, none⟩ (.slice qn x.names.length mn)).setCell ⟨gb, mv * 6 + 5, none⟩ (.slice ql x.kids.length ml)) = W6 at *
       refine hK.out _ _ ?_
       clear hK K
       try simp only [Act.put, pzz]
       refine wpAnyG_done (by kernel_rfl) ?_ _
       go_wp2_with fail
       go_meet
       exact Lib.hid ⟨_, _, SCUR.out⟩
     ·skip
      refine AllReadyG.held rfl (fun K hK => ?_) AllReadyG.nil
      have SB := Lib.hid (SCUR.out.newbox (.int .i64 0) [.string ⟨#[]⟩, .string ⟨#[]⟩, .int .i64 0, .slice none 0 0, .slice none 0 0] 28)
      have BXM := Lib.hid (SB.out.hd_mem)
      (try (have NDM2 := Lib.hid (SB.out.tl_mem NDM.out); clear NDM; have NDM := NDM2; clear NDM2))
      clear SCUR
      have SCUR := SB
      clear SB
      go_simp
      clear hHeld
      refine hK.out _ _ ?_ (fun hHeld => ?_)
      focus (
       (try dsimp only)
       go_keep)
      clear hK K
      try simp only [Act.put, pzz]
      refine wpAnyG_ready (rs := [3]) (by kernel_rfl) (by simp) ?_
      refine AllReadyG.held rfl (fun K hK => ?_) AllReadyG.nil
      go_simp
      refine (item_any HC.out _ r q c z s' SCUR.out.rd hfk).mono ?_
      intro e w3 hE
      obtain ⟨v2, rfl, hv, r3, o3⟩ := hE.yes HX.out
      obtain ⟨qn, mn, ql, ml, rfl⟩ := EncN.open hv
      have SB := Lib.hid (SCUR.out.got o3 r3 hv)
      obtain ⟨_, _, _, _, _, b5, _⟩ := SB.out.six
      have brb := one_blk (SB.out.blk (List.mem_cons_of_mem _ hrK))
      have NDM := Lib.hid (SB.out.hd_mem)
      (try (have BXM2 := Lib.hid (List.mem_cons_of_mem (Pt.nd (ndV x (.slice qn x.names.length mn) (.slice ql x.kids.length ml)) x) BXM.out); clear BXM; have BXM := BXM2; clear BXM2))
      clear SCUR hE r3 o3 hv
      have SCUR := SB
      clear SB
      clear hHeld
      refine hK.out _ _ (⟨b5, brb⟩) (fun hHeld => ?_)
      clear hK K
      try simp only [Act.put, pzz]
      refine wpAnyG_ready (rs := [6]) (by kernel_rfl) (by simp) ?_
      refine AllReadyG.free rfl (by kernel_rfl) (fun K hK => ?_) AllReadyG.nil
      obtain ⟨v', W4, hrun, S4⟩ := (SCUR.out.add (p := .nd (ndV z0N (.slice none 0 0) (.slice none 0 0)) z0N) (z0_pt _ _)).pushAt (x := z0N) (List.mem_cons_self ..) (by omega) 26 _ (fun j u hu => (SCUR.out.pts _ BXM.out).2 j u hu)
      obtain ⟨gb, cap, hv4, hgl, hfz, ⟨u0, u1, u2, u3, u4, u5, g0, g1, g2, g3, g4, g5⟩, hgK, hput⟩ := S4.last
      rw [← hmv.out] at hv4
      subst hv4
      have NDM3 := Lib.hid (S4.tl_mem NDM.out)
      have HRUN := Lib.hid hrun
      have SB := Lib.hid S4
      clear hrun S4 hput hgK hfz g0 g1 g2 g3 g4 g5 NDM BXM SCUR
      have SCUR := SB
      clear SB
      refine step_append_runs rfl _ _ 26 rfl _ _ _ _ rfl rfl HRUN.out ?_
      clear HRUN
      clear hHeld
      refine hK.out _ _ ?_
      clear hK K
      try simp only [Act.put, pzz]
      refine puG (i := 7) (v := ?_) ?_ (hS := fun h => absurd h (by decide))
      try simp only [Act.put, pzz]
      refine puG (i := 9) (v := ?_) ?_ (hS := fun h => absurd h (by decide))
      try simp only [Act.put, pzz]
      refine wpAnyG_ready (rs := [8, 10]) (by kernel_rfl) (by simp) ?_
      refine AllReadyG.free rfl (by kernel_rfl) (fun K hK => ?_) ?_
      ·skip
       obtain ⟨gb2, cap2, hv4, hgl2, hfz, ⟨u0, u1, u2, u3, u4, u5, g0, g1, g2, g3, g4, g5⟩, hgK, hput⟩ := SCUR.out.last
       simp only [Value.slice.injEq, Option.some.injEq, Addr.mk.injEq, and_true, true_and] at hv4
       obtain ⟨rfl, hv4⟩ := hv4
       have SB := hput x _ _ NDM3.out
       rw [← hmv.out] at SB g0 g1 g2 g3 g4 g5
       have z0 := hfz (mv * 6)
       have z1 := hfz (mv * 6 + 1)
       have z2 := hfz (mv * 6 + 2)
       have z3 := hfz (mv * 6 + 3)
       have z4 := hfz (mv * 6 + 4)
       have z5 := hfz (mv * 6 + 5)
       unfold put6at at SB
       have SB2 := Lib.hid SB
       clear hput hgK hfz SB SCUR hv4
       have SCUR := SB2
       clear SB2
       go_simp
       clear g0 g1 g2 g3 g4 g5 z0 z1 z2 z3 z4 z5 hgl2
       generalize ((((((W4.setCell ⟨gb, mv * 6, none⟩ (.int .i64 x.k)).setCell ⟨gb, mv * 6 + 1, none⟩ (.string x.name)).setCell ⟨gb, mv * 6 + 2, none⟩ (.string x.text)).setCell ⟨gb, mv * 6 + 3, none⟩ (.int .i64 x.n)).setCell ⟨gb, mv * 6 + 4, none⟩ (.slice qn x.names.length mn)).setCell ⟨gb, mv * 6 + 5, none⟩ (.slice ql x.kids.length ml)) = W5 at *
       refine hK.out _ _ ?_
       clear hK K
       try simp only [Act.put, pzz]
       refine wpAnyG_ready (rs := [10]) (by kernel_rfl) (by simp) ?_
       refine AllReadyG.free rfl (by kernel_rfl) (fun K hK => ?_) AllReadyG.nil
       obtain ⟨_, _, _, _, _, k5, _, _, _, _, _, m5⟩ := SCUR.out.six
       have l5 := (SCUR.out.fst (List.mem_cons_self ..)).2
       have SB := Lib.hid (SCUR.out.set5 hne (.slice (some ⟨gb, 0, none⟩) (mv + 1) cap))
       clear SCUR
       have SCUR := SB
       clear SB
       go_simp
       clear k5 m5 l5
       generalize W5.setCell ⟨nb, 5, none⟩ (.slice (some ⟨gb, 0, none⟩) (mv + 1) cap) = W6 at *
       refine hK.out _ _ ?_
       clear hK K
       try simp only [Act.put, pzz]
       refine wpAnyG_done (by kernel_rfl) ?_ _
       go_wp2_with fail
       go_meet
       exact Lib.hid ⟨_, _, SCUR.out⟩
      ·skip
       refine AllReadyG.free rfl (by kernel_rfl) (fun K hK => ?_) AllReadyG.nil
       obtain ⟨_, _, _, _, _, k5, _, _, _, _, _, m5⟩ := SCUR.out.six
       have l5 := (SCUR.out.fst (List.mem_cons_self ..)).2
       have SB := Lib.hid (SCUR.out.set5 hne (.slice (some ⟨gb, 0, none⟩) (mv + 1) cap))
       clear SCUR
       have SCUR := SB
       clear SB
       go_simp
       clear k5 m5 l5
       generalize W4.setCell ⟨nb, 5, none⟩ (.slice (some ⟨gb, 0, none⟩) (mv + 1) cap) = W5 at *
       refine hK.out _ _ ?_
       clear hK K
       try simp only [Act.put, pzz]
       refine wpAnyG_ready (rs := [8]) (by kernel_rfl) (by simp) ?_
       refine AllReadyG.free rfl (by kernel_rfl) (fun K hK => ?_) AllReadyG.nil
       obtain ⟨gb2, cap2, hv4, hgl2, hfz, ⟨u0, u1, u2, u3, u4, u5, g0, g1, g2, g3, g4, g5⟩, hgK, hput⟩ := SCUR.out.last
       simp only [Value.slice.injEq, Option.some.injEq, Addr.mk.injEq, and_true, true_and] at hv4
       obtain ⟨rfl, hv4⟩ := hv4
       have SB := hput x _ _ NDM3.out
       rw [← hmv.out] at SB g0 g1 g2 g3 g4 g5
       have z0 := hfz (mv * 6)
       have z1 := hfz (mv * 6 + 1)
       have z2 := hfz (mv * 6 + 2)
       have z3 := hfz (mv * 6 + 3)
       have z4 := hfz (mv * 6 + 4)
       have z5 := hfz (mv * 6 + 5)
       unfold put6at at SB
       have SB2 := Lib.hid SB
       clear hput hgK hfz SB SCUR hv4
       have SCUR := SB2
       clear SB2
       go_simp
       clear g0 g1 g2 g3 g4 g5 z0 z1 z2 z3 z4 z5 hgl2
       generalize ((((((W5.setCell ⟨gb, mv * 6, none⟩ (.int .i64 x.k)).setCell ⟨gb, mv * 6 + 1, none⟩ (.string x.name)).setCell ⟨gb, mv * 6 + 2, none⟩ (.string x.text)).setCell ⟨gb, mv * 6 + 3, none⟩ (.int .i64 x.n)).setCell ⟨gb, mv * 6 + 4, none⟩ (.slice qn x.names.length mn)).setCell ⟨gb, mv * 6 + 5, none⟩ (.slice ql x.kids.length ml)) = W6 at *
       refine hK.out _ _ ?_
       clear hK K
       try simp only [Act.put, pzz]
       refine wpAnyG_done (by kernel_rfl) ?_ _
       go_wp2_with fail
       go_meet
       exact Lib.hid ⟨_, _, SCUR.out⟩
    case rest =>
    obtain ⟨v', N', S50⟩ := hcut.out
    have S5 := Lib.hid S50
    clear hcut hm0 hm1 hm2 c5 hrb
    have hrb := one_blk (S50.blk (List.mem_cons_of_mem _ hrK))
    have c44 := take_any _ r q c z s1 [44] S50.rd
    clear S50
    cases h44 : isW z s1.p [44] with
    | true =>
     rw [h44, skipP_yes h44] at c44
     have HR2 := Lib.hid (show itemL z (pz z f) k ⟨s1.p + 1, s1.o⟩ (acc ++ [x]) = res by rw [← SP.out, itemL_more HB.out HX.out (by rw [h44]; rfl)])
     have hlt := isW_lt h44
     clear h44
     go_wp2_with fail
     refine c44.mono ?_
     rintro e w6 ⟨rfl, r6, o6⟩
     have S6 := Lib.hid ((S5.out.call o6 r6).sub (N' := []) (fun p hp => by cases hp))
     have hnx2 := S6.out.nxt
     clear r6 o6 c44 S5
     go_wp2_with fail
     go_roundw
     case rel => exact ⟨k, ⟨s1.p + 1, s1.o⟩, _, _, S6, HR2, by simp only; omega, by rw [List.length_append]; simp; omega, by simp only; omega⟩
     case measure => rw [hnx, hnx2]; omega
    | false =>
     rw [h44, skipP_no h44] at c44
     have H44 := Lib.hid h44
     clear h44
     go_wp2_with fail
     refine c44.mono ?_
     rintro e w6 ⟨rfl, r6, o6⟩
     have S6 := Lib.hid (S5.out.call o6 r6)
     have hrb1 := one_blk (S6.out.blk (List.mem_cons_of_mem _ hrK))
     clear r6 o6 c44 S5 hrb
     have c59 := take_any w6 r q c z s1 [59] S6.out.rd
     cases h59 : isW z s1.p [59] with
     | true =>
      rw [h59, skipP_yes h59] at c59
      have HR2 := Lib.hid (show itemL z (pz z f) k ⟨s1.p + 1, s1.o⟩ (acc ++ [x]) = res by rw [← SP.out, itemL_more HB.out HX.out (by rw [h59, Bool.or_true])])
      have hlt := isW_lt h59
      clear h59
      go_wp2_with fail
      refine c59.mono ?_
      rintro e w7 ⟨rfl, r7, o7⟩
      have S7 := Lib.hid ((S6.out.call o7 r7).sub (N' := []) (fun p hp => by cases hp))
      have hnx2 := S7.out.nxt
      clear r7 o7 c59 S6
      go_wp2_with fail
      go_roundw
      case rel => exact ⟨k, ⟨s1.p + 1, s1.o⟩, _, _, S7, HR2, by simp only; omega, by rw [List.length_append]; simp; omega, by simp only; omega⟩
      case measure => rw [hnx, hnx2]; omega
     | false =>
      rw [h59, skipP_no h59] at c59
      have HR2 := Lib.hid (show res = .ok (acc ++ [x], s1) by rw [← SP.out, itemL_last HB.out HX.out (by rw [H44.out, h59]; rfl)])
      clear h59
      go_wp2_with fail
      refine c59.mono ?_
      rintro e w7 ⟨rfl, r7, o7⟩
      have S7 := Lib.hid (S6.out.call o7 r7)
      clear r7 o7 c59 S6
      go_wp2_with fail
      go_end0
      exact .mk1 HR2.out (GK.of S7.out)
end Go.Proofs.YtkbcnacjaakleaaGreatDoor
