/- item of a table. item of a table: a name and what it is; any item. A drawn region whose loads are held until an operation that waits for them (the gate) has come up: what comes behind it may write their cells. The last of a row of trees is written; table. -/
import Derived.Test.YtkbcnacjaakleaaGreatDoorYP18
import Derived.Test.YtkbcnacjaakleaaGreatDoorYP00
import Derived.Deep.RegionHeld3
set_option maxRecDepth 100000
set_option maxHeartbeats 32000000
set_option linter.unusedVariables false
set_option linter.unusedSimpArgs false
namespace Go.Proofs.YtkbcnacjaakleaaGreatDoor
open Go.RowKit

def pairB (z : Wz) (p : Nat) : Bool := match kindW z p 0, z.ws[p + 1]? with | some _, some w2 => decide (w2.k = 4 ∧ w2.t = [61]) | _, _ => false
theorem ndK_k (k : Int) (l : List Nd) : (ndK k l).k = k := rfl
theorem ndK_name (k : Int) (l : List Nd) : (ndK k l).name = ⟨#[]⟩ := rfl
theorem ndK_text (k : Int) (l : List Nd) : (ndK k l).text = ⟨#[]⟩ := rfl
theorem ndK_n (k : Int) (l : List Nd) : (ndK k l).n = 0 := rfl
theorem St.bxne {w W : World} {r : Nat} {q : Option Addr} {c : Nat} {z : Wz} {s : Ps} {K : List (Nat × Obj)} {N : List Pt} {lv tv : Value} {l : List Nd} {tl : List ByteArray} (h : St w W r q c z s K N lv l tv tl) {b : Nat} {u : Value} {cs : List Value} {k : Nat} {o : Obj} (hb : Pt.bx b u cs ∈ N) (hk : (k, o) ∈ K) : ¬ k = b ∧ ¬ b = k := by
 have := (h.pts _ hb).1.box
 have hm : k ∈ K.map (·.1) := List.mem_map.2 ⟨_, hk, rfl⟩
 exact ⟨fun e => this (by rw [← e]; exact hm), fun e => this (by rw [e]; exact hm)⟩
theorem itemR_br {z : Wz} {r : Pz} {s : Ps} (h : isW z s.p [91] = true) : itemR z r s = (match bracketR z r [93] ⟨s.p + 1, s.o⟩ with
  | .error e => .error e
  | .ok (k, s1) => match wantP z s1 [61] with
   | .error e => .error e
   | .ok (_, s2) => match r.ex 0 s2 with | .error e => .error e | .ok (x, s3) => .ok (ndK 20 [k, x], s3)) := by unfold itemR; rw [if_pos h]; rfl
theorem itemR_no {z : Wz} {r : Pz} {s : Ps} (h : isW z s.p [91] = false) (hp : pairB z s.p = false) : itemR z r s = (match r.ex 0 s with | .error e => .error e | .ok (x, s1) => .ok (ndK 19 [x], s1)) := by
 unfold itemR
 rw [if_neg (by rw [h]; decide)]
 unfold pairB at hp
 cases hk : kindW z s.p 0 with
 | none => rfl
 | some w =>
  cases hz : z.ws[s.p + 1]? with
  | none => rfl
  | some w2 =>
   rw [hk, hz] at hp
   simp only at hp ⊢
   rw [if_neg (of_decide_eq_false hp)]
   rfl
theorem itemR_eq {z : Wz} {r : Pz} {s : Ps} (h : isW z s.p [91] = false) (hp : pairB z s.p = true) : ∃ w : Wd, nameR z s = .ok (⟨w.t.toArray⟩, ⟨s.p + 1, s.o⟩) ∧ isW z (s.p + 1) [61] = true ∧
  itemR z r s = (match r.ex 0 ⟨s.p + 2, s.o⟩ with | .error e => .error e | .ok (x, s3) => .ok (ndK 20 [ndT ⟨w.t.toArray⟩, x], s3)) := by
 unfold itemR
 rw [if_neg (by rw [h]; decide)]
 unfold pairB at hp
 cases hk : kindW z s.p 0 with
 | none => rw [hk] at hp; simp at hp
 | some w =>
  cases hz : z.ws[s.p + 1]? with
  | none => rw [hk, hz] at hp; simp at hp
  | some w2 =>
   rw [hk, hz] at hp
   simp only at hp ⊢
   have hw := of_decide_eq_true hp
   refine ⟨w, by unfold nameR; rw [hk], by unfold isW; rw [hz]; simp [hw], ?_⟩
   rw [if_pos hw]
   rfl
theorem item_br {f : Nat} (hC : Con f) (w : World) (r : Nat) (q : Option Addr) (c : Nat) (z : Wz) (s : Ps) (h : RdAt w r q c z s) (hf : 10 * (z.ws.length - s.p) + 8 ≤ f) (hb : isW z s.p [91] = true) :
  Calls Tryz.prog 310 #[.pointer (some ⟨r, 0, none⟩)] w (RdR (EncN w) w r q c z (itemR z (pz z f) s)) := by
 obtain ⟨res, hres⟩ : ∃ res, itemR z (pz z f) s = res := ⟨_, rfl⟩
 rw [hres]
 have HC := Lib.hid hC
 have H0 := Lib.hid ((St.start h).newK ndZ)
 have hle := h.le
 have hlen := h.len
 have hlow := h.lt
 rw [itemR_br hb] at hres
 have HR := Lib.hid hres
 have hlt := isW_lt hb
 have cT := take_any (w.alloc ndZ) r q c z s [91] H0.out.rd
 rw [hb, skipP_yes hb] at cT
 clear hres h hC hb
 go_enter Tryz.func310, Tryz.ntmps310
 go_wp2_with fail
 refine cT.mono ?_
 rintro e w1 ⟨rfl, r1, o1⟩
 have S1 := Lib.hid (H0.out.call o1 r1)
 clear r1 o1 cT H0
 go_wp2_with fail
 refine (bracketed_any HC.out w1 r q c z ⟨s.p + 1, s.o⟩ [93] S1.out.rd (by simp only; omega) (by simp only; omega)).mono ?_
 intro e w2 hE
 cases hx : bracketR z (pz z f) [93] ⟨s.p + 1, s.o⟩ with
 | error y =>
  obtain ⟨rfl, o2⟩ := hE.no hx
  have HR2 := Lib.hid (show res = .error y by rw [← HR.out, hx])
  clear hE hx
  go_wp2_with fail
  exact ⟨rfl, S1.out.giv HR2.out o2⟩
 | ok y =>
  obtain ⟨x, s1⟩ := y
  obtain ⟨v, rfl, hv, r2, o2⟩ := hE.yes hx
  obtain ⟨qn, mn, ql, ml, rfl⟩ := EncN.open hv
  have hgt := bracket_gt (pz_adv z f) [93] _ _ _ hx
  have hg := hgt.1
  simp only at hg
  have HR2 := Lib.hid (show (match wantP z s1 [61] with
   | .error e => .error e
   | .ok (_, s2) => match (pz z f).ex 0 s2 with | .error e => .error e | .ok (y, s3) => .ok (ndK 20 [x, y], s3)) = res by rw [← HR.out, hx])
  obtain ⟨nl, hnl⟩ : ∃ n, x.names.length = n := ⟨_, rfl⟩
  obtain ⟨kl, hkl⟩ : ∃ n, x.kids.length = n := ⟨_, rfl⟩
  rw [hnl, hkl] at hv ⊢
  have S2 := Lib.hid ((S1.out.got o2 r2 hv).newbox (.int .i64 x.k) [.string x.name, .string x.text, .int .i64 x.n, .slice qn nl mn, .slice ql kl ml] 28)
  clear hE hx hv r2 o2 HR hnl hkl S1 hgt
  go_wp2_with fail
  generalize w2.alloc (.cells #[.int .i64 x.k, .string x.name, .string x.text, .int .i64 x.n, .slice qn nl mn, .slice ql kl ml] 28) = W1 at *
  refine (want_any W1 r q c z s1 [61] S2.out.rd).mono ?_
  intro e W2 hE
  cases hx : wantP z s1 [61] with
  | error y =>
   obtain ⟨rfl, o3⟩ := hE.no hx
   have HR3 := Lib.hid (show res = .error y by rw [← HR2.out, hx])
   clear hE hx
   go_wp2_with fail
   exact ⟨rfl, S2.out.giv HR3.out o3⟩
  | ok y =>
   obtain ⟨u, s2⟩ := y
   obtain ⟨v, rfl, hv, r3, o3⟩ := hE.yes hx
   have hg2 := (want_gt hx).1
   have hf2 : 10 * (z.ws.length - s2.p) + 8 ≤ f := by omega
   have HRX := Lib.hid (show (match (pz z f).ex 0 s2 with | .error e => .error e | .ok (y, s3) => .ok (ndK 20 [x, y], s3)) = res by rw [← HR2.out, hx])
   have S3 := S2.out.call o3 r3
   clear hE hx hv r3 o3 HR2 S2
   have S2 := Lib.hid S3
   clear S3
   obtain ⟨_, l4, y0, y1, y2, y3, y4, y5⟩ := S2.out.box6 (List.mem_cons_self ..)
   have MEM : Hid (Pt.nd (ndV x (.slice qn nl mn) (.slice ql kl ml)) x ∈ [Pt.bx w2.heap.size (.int .i64 x.k) [.string x.name, .string x.text, .int .i64 x.n, .slice qn nl mn, .slice ql kl ml], Pt.nd (ndV x (.slice qn nl mn) (.slice ql kl ml)) x]) := Lib.hid (List.mem_cons_of_mem _ (List.mem_cons_self ..))
   have BXM : Hid (Pt.bx w2.heap.size (.int .i64 x.k) [.string x.name, .string x.text, .int .i64 x.n, .slice qn nl mn, .slice ql kl ml] ∈ [Pt.bx w2.heap.size (.int .i64 x.k) [.string x.name, .string x.text, .int .i64 x.n, .slice qn nl mn, .slice ql kl ml], Pt.nd (ndV x (.slice qn nl mn) (.slice ql kl ml)) x]) := Lib.hid (List.mem_cons_self ..)
   have NEB := Lib.hid (S2.out.bxne (k := w.heap.size) (o := ndZ) (List.mem_cons_self ..) (by simp))
   generalize w2.heap.size = B3 at *
   go_wp2_with fail
   refine wp_region_held_drew (S := fun w' => w'.cell? ⟨B3, 0, none⟩ = some (.int .i64 x.k) ∧ w'.cell? ⟨B3, 1, none⟩ = some (.string x.name) ∧ w'.cell? ⟨B3, 2, none⟩ = some (.string x.text) ∧ w'.cell? ⟨B3, 3, none⟩ = some (.int .i64 x.n) ∧ w'.cell? ⟨B3, 4, none⟩ = some (.slice qn nl mn) ∧ w'.cell? ⟨B3, 5, none⟩ = some (.slice ql kl ml)) (by kernel_rfl) (⟨y0, y1, y2, y3, y4, y5⟩) (fun hHeld => ?_)
   refine tkH (i := 0) (v := ?_) ?_
   (try simp only [Act.put, List.setIfInBounds_toArray, List.set_cons_zero, List.set_cons_succ])
   refine tkH (i := 1) (v := ?_) ?_
   (try simp only [Act.put, List.setIfInBounds_toArray, List.set_cons_zero, List.set_cons_succ])
   refine wpAnyH_ready (rs := [2]) (by kernel_rfl) (by simp) ?_
   refine AllReadyH.cons rfl (fun K hK => ?_) AllReadyH.nil
   go_simp
   refine (HC.out.ex0 W2.drew r q c z s2 S2.out.drew.rd hf2).mono ?_
   intro e w3 hE
   cases hx : (pz z f).ex 0 s2 with
   | error y =>
    obtain ⟨rfl, o3⟩ := hE.no hx
    exact ⟨rfl, S2.out.drew.giv (by rw [← HRX.out, hx]) o3⟩
   | ok y =>
   obtain ⟨x2, s3⟩ := y
   obtain ⟨v2, rfl, hv, r3, o3⟩ := hE.yes hx
   obtain ⟨qn2, mn2, ql2, ml2, rfl⟩ := EncN.open hv
   have HR3 := Lib.hid (show res = .ok (ndK 20 [x, x2], s3) by rw [← HRX.out, hx])
   have S3 := Lib.hid ((S2.out.drew.got o3 r3 hv).two (x := x) (y := x2) (nx := .slice qn nl mn) (lx := .slice ql kl ml) (List.mem_cons_of_mem _ MEM.out) (List.mem_cons_self ..))
   obtain ⟨_, l7, z0, z1, z2, z3, z4, z5⟩ := (S2.out.drew.got o3 r3 hv).box6 (List.mem_cons_of_mem _ BXM.out)
   obtain ⟨nl2, hnl2⟩ : ∃ n, x2.names.length = n := ⟨_, rfl⟩
   obtain ⟨kl2, hkl2⟩ : ∃ n, x2.kids.length = n := ⟨_, rfl⟩
   rw [hnl2, hkl2] at S3 ⊢
   clear hE hx r3 o3 hv hnl2 hkl2 S2
   clear hHeld
   refine hK.out _ _ (⟨z0, z1, z2, z3, z4, z5⟩) (fun hHeld => ?_)
   clear hK K
   (try simp only [Act.put, List.setIfInBounds_toArray, List.set_cons_zero, List.set_cons_succ])
   refine wpAnyH_ready (rs := [3]) (by kernel_rfl) (by simp) ?_
   refine AllReadyH.cons rfl (fun K hK => ?_) AllReadyH.nil
   go_simp
   clear hHeld
   refine hK.out _ _ ?_ (fun hHeld => ?_)
   focus (
    (try dsimp only)
    go_keep)
   clear hK K
   (try simp only [Act.put, List.setIfInBounds_toArray, List.set_cons_zero, List.set_cons_succ])
   refine tkH (i := 4) (v := ?_) ?_
   (try simp only [Act.put, List.setIfInBounds_toArray, List.set_cons_zero, List.set_cons_succ])
   refine wpAnyH_ready (rs := [5]) (by kernel_rfl) (by simp) ?_
   refine AllReadyH.cons rfl (fun K hK => ?_) AllReadyH.nil
   obtain ⟨ne1, ne2⟩ := NEB.out
   obtain ⟨_, _, _, _, _, _, f0, f1, f2, f3, f4, f5⟩ := S3.out.six
   have hlt := (S3.out.fst (List.mem_cons_self ..)).2
   go_simp
   clear hHeld
   refine hK.out _ _ ?_ (fun hHeld => ?_)
   focus (
    (try dsimp only)
    go_keep)
   clear hK K
   (try simp only [Act.put, List.setIfInBounds_toArray, List.set_cons_zero, List.set_cons_succ])
   refine wpAnyH_done (by kernel_rfl) ?_ _
   go_wp2_with fail
   exact bodyPost_ret (v := ndV (ndK 20 [x, x2]) (.slice none 0 0) (.slice (some ⟨w3.heap.size, 0, none⟩) 2 2)) (by simp [results, Tryz.results310, go_sem, *, ndK_k, ndK_name, ndK_text, ndK_n]) rfl (S3.out.fin (by intro p hp; cases hp) _ _ HR3.out fun W' hW' => PtAt.mk _ _ 20 0 _ _ (PtAt.tx0 _ _) (hW'.pt (List.mem_cons_self ..)))
theorem item_no {f : Nat} (hC : Con f) (w : World) (r : Nat) (q : Option Addr) (c : Nat) (z : Wz) (s : Ps) (h : RdAt w r q c z s) (hf : 10 * (z.ws.length - s.p) + 8 ≤ f) (hb : isW z s.p [91] = false) (hpb : pairB z s.p = false) :
  Calls Tryz.prog 310 #[.pointer (some ⟨r, 0, none⟩)] w (RdR (EncN w) w r q c z (itemR z (pz z f) s)) := by
 obtain ⟨res, hres⟩ : ∃ res, itemR z (pz z f) s = res := ⟨_, rfl⟩
 rw [hres]
 have HC := Lib.hid hC
 have H0 := Lib.hid ((St.start h).newK ndZ)
 have hle := h.le
 have hlen := h.len
 have hlow := h.lt
 rw [itemR_no hb hpb] at hres
 have HR := Lib.hid hres
 have cT := take_any (w.alloc ndZ) r q c z s [91] H0.out.rd
 rw [hb, skipP_no hb] at cT
 clear hres h hC hb
 go_enter Tryz.func310, Tryz.ntmps310
 go_wp2_with fail
 refine cT.mono ?_
 rintro e w1 ⟨rfl, r1, o1⟩
 have S1 := Lib.hid (H0.out.call o1 r1)
 clear r1 o1 cT H0
 obtain ⟨d0, d1, _⟩ := S1.out.rd.four
 have hwr : IntKind.i64.wrap ((s.p : Int) + 1) = (s.p : Int) + 1 := IntWalk.i64_in _ (by omega)
 have hp0 : (0 : Int) ≤ (s.p : Int) := by omega
 have hp1 : (0 : Int) ≤ (s.p : Int) + 1 := by omega
 have htn : ((s.p : Int) + 1).toNat = s.p + 1 := by omega
 have CLR : Hid True := Lib.hid trivial
 by_cases hlt : s.p + 1 < z.ws.length
 rotate_left
 ·have hd : decide ((s.p : Int) + 1 < (z.ws.length : Int)) = false := decide_eq_false (by omega)
  have hd' : ¬ (s.p : Int) + 1 < (z.ws.length : Int) := by omega
  clear hpb
  go_wp2_with fail
  go_quiet (fail)
  clear d0 d1 hwr hp0 hp1 htn hd hd'
  have EE := Lib.hid ((Ext.refl w1).drewN nq)
  have S2 := Lib.hid (S1.out.ext EE.out)
  clear S1 EE CLR
  generalize w1.drewN nq = W2 at *
  go_wp2_with fail
  refine (HC.out.ex0 W2 r q c z s S2.out.rd hf).mono ?_
  intro e w3 hE
  cases hx : (pz z f).ex 0 s with
  | error y =>
   obtain ⟨rfl, o3⟩ := hE.no hx
   have HR3 := Lib.hid (show res = .error y by rw [← HR.out, hx])
   clear hE hx
   go_wp2_with fail
   exact ⟨rfl, S2.out.giv HR3.out o3⟩
  | ok y =>
   obtain ⟨x, s3⟩ := y
   obtain ⟨v, rfl, hv, r3, o3⟩ := hE.yes hx
   obtain ⟨qn, mn, ql, ml, rfl⟩ := EncN.open hv
   have HR3 := Lib.hid (show res = .ok (ndK 19 [x], s3) by rw [← HR.out, hx])
   have S3 := (S2.out.got o3 r3 hv).one (x := x) (List.mem_cons_self ..)
   obtain ⟨nl, hnl⟩ : ∃ n, x.names.length = n := ⟨_, rfl⟩
   obtain ⟨kl, hkl⟩ : ∃ n, x.kids.length = n := ⟨_, rfl⟩
   rw [hnl, hkl] at S3 ⊢
   have HS3 := Lib.hid S3
   obtain ⟨_, _, _, _, _, _, f0, f1, f2, f3, f4, f5⟩ := S3.six
   have hlt := (S3.fst (List.mem_cons_self ..)).2
   clear hE hx r3 o3 hv hnl hkl S2 S3
   go_wp2_with fail
   exact bodyPost_ret (v := ndV (ndK 19 [x]) (.slice none 0 0) (.slice (some ⟨w3.heap.size, 0, none⟩) 1 1)) (by simp [results, Tryz.results310, go_sem, *, ndK_k, ndK_name, ndK_text, ndK_n]) rfl (HS3.out.fin (by intro p hp; cases hp) _ _ HR3.out fun W' hW' => PtAt.mk _ _ 19 0 _ _ (PtAt.tx0 _ _) (hW'.pt (List.mem_cons_self ..)))
 ·have HPB := Lib.hid hpb
  clear hpb
  have hd : decide ((s.p : Int) + 1 < (z.ws.length : Int)) = true := decide_eq_true (by omega)
  have hd' : (s.p : Int) + 1 < (z.ws.length : Int) := by omega
  have hd2 : (s.p : Int) < (z.ws.length : Int) := by omega
  obtain ⟨b, o2, hq, hbr, x0, _, _, _⟩ := S1.out.rd.words s.p (by omega)
  obtain ⟨b', o2', hq', _, y0, y1, _, _⟩ := S1.out.rd.words (s.p + 1) (by omega)
  obtain ⟨rfl, rfl⟩ : b = b' ∧ o2 = o2' := by rw [hq] at hq'; cases hq'; exact ⟨rfl, rfl⟩
  subst hq
  clear hq'
  have HW0 := Lib.hid (List.getElem?_eq_getElem (l := z.ws) (show s.p < z.ws.length by omega))
  have HW1 := Lib.hid (List.getElem?_eq_getElem (l := z.ws) hlt)
  generalize z.ws[s.p] = u0 at *
  generalize z.ws[s.p + 1] = u1 at *
  cases h0 : (u0.k == 0) with
  | false =>
   clear HW0 HW1 HPB y0 y1
   go_wp2_with fail
   go_quiet (fail)
   clear d0 d1 hwr hp0 hp1 htn hd hd' hd2 x0 h0
   have EE := Lib.hid ((Ext.refl w1).drewN nq)
   have S2 := Lib.hid (S1.out.ext EE.out)
   clear S1 EE CLR
   generalize w1.drewN nq = W2 at *
   go_wp2_with fail
   refine (HC.out.ex0 W2 r (some ⟨b, o2, none⟩) c z s S2.out.rd hf).mono ?_
   intro e w3 hE
   cases hx : (pz z f).ex 0 s with
   | error y =>
    obtain ⟨rfl, o3⟩ := hE.no hx
    have HR3 := Lib.hid (show res = .error y by rw [← HR.out, hx])
    clear hE hx
    go_wp2_with fail
    exact ⟨rfl, S2.out.giv HR3.out o3⟩
   | ok y =>
    obtain ⟨x, s3⟩ := y
    obtain ⟨v, rfl, hv, r3, o3⟩ := hE.yes hx
    obtain ⟨qn, mn, ql, ml, rfl⟩ := EncN.open hv
    have HR3 := Lib.hid (show res = .ok (ndK 19 [x], s3) by rw [← HR.out, hx])
    have S3 := (S2.out.got o3 r3 hv).one (x := x) (List.mem_cons_self ..)
    obtain ⟨nl, hnl⟩ : ∃ n, x.names.length = n := ⟨_, rfl⟩
    obtain ⟨kl, hkl⟩ : ∃ n, x.kids.length = n := ⟨_, rfl⟩
    rw [hnl, hkl] at S3 ⊢
    have HS3 := Lib.hid S3
    obtain ⟨_, _, _, _, _, _, f0, f1, f2, f3, f4, f5⟩ := S3.six
    have hlt := (S3.fst (List.mem_cons_self ..)).2
    clear hE hx r3 o3 hv hnl hkl S2 S3
    go_wp2_with fail
    exact bodyPost_ret (v := ndV (ndK 19 [x]) (.slice none 0 0) (.slice (some ⟨w3.heap.size, 0, none⟩) 1 1)) (by simp [results, Tryz.results310, go_sem, *, ndK_k, ndK_name, ndK_text, ndK_n]) rfl (HS3.out.fin (by intro p hp; cases hp) _ _ HR3.out fun W' hW' => PtAt.mk _ _ 19 0 _ _ (PtAt.tx0 _ _) (hW'.pt (List.mem_cons_self ..)))
  | true =>
   cases h4 : (u1.k == 4) with
   | false =>
    clear HW0 HW1 HPB y1
    go_wp2_with fail
    go_quiet (fail)
    clear d0 d1 hwr hp0 hp1 htn hd hd' hd2 x0 y0 h0 h4
    have EE := Lib.hid ((Ext.refl w1).drewN nq)
    have S2 := Lib.hid (S1.out.ext EE.out)
    clear S1 EE CLR
    generalize w1.drewN nq = W2 at *
    go_wp2_with fail
    refine (HC.out.ex0 W2 r (some ⟨b, o2, none⟩) c z s S2.out.rd hf).mono ?_
    intro e w3 hE
    cases hx : (pz z f).ex 0 s with
    | error y =>
     obtain ⟨rfl, o3⟩ := hE.no hx
     have HR3 := Lib.hid (show res = .error y by rw [← HR.out, hx])
     clear hE hx
     go_wp2_with fail
     exact ⟨rfl, S2.out.giv HR3.out o3⟩
    | ok y =>
     obtain ⟨x, s3⟩ := y
     obtain ⟨v, rfl, hv, r3, o3⟩ := hE.yes hx
     obtain ⟨qn, mn, ql, ml, rfl⟩ := EncN.open hv
     have HR3 := Lib.hid (show res = .ok (ndK 19 [x], s3) by rw [← HR.out, hx])
     have S3 := (S2.out.got o3 r3 hv).one (x := x) (List.mem_cons_self ..)
     obtain ⟨nl, hnl⟩ : ∃ n, x.names.length = n := ⟨_, rfl⟩
     obtain ⟨kl, hkl⟩ : ∃ n, x.kids.length = n := ⟨_, rfl⟩
     rw [hnl, hkl] at S3 ⊢
     have HS3 := Lib.hid S3
     obtain ⟨_, _, _, _, _, _, f0, f1, f2, f3, f4, f5⟩ := S3.six
     have hlt := (S3.fst (List.mem_cons_self ..)).2
     clear hE hx r3 o3 hv hnl hkl S2 S3
     go_wp2_with fail
     exact bodyPost_ret (v := ndV (ndK 19 [x]) (.slice none 0 0) (.slice (some ⟨w3.heap.size, 0, none⟩) 1 1)) (by simp [results, Tryz.results310, go_sem, *, ndK_k, ndK_name, ndK_text, ndK_n]) rfl (HS3.out.fin (by intro p hp; cases hp) _ _ HR3.out fun W' hW' => PtAt.mk _ _ 19 0 _ _ (PtAt.tx0 _ _) (hW'.pt (List.mem_cons_self ..)))
   | true =>
    have ht : (u1.t == [61]) = false := by
     rw [beq_eq_false_iff_ne]
     intro ht
     have := HPB.out
     unfold pairB kindW at this
     rw [HW0.out, HW1.out] at this
     simp only at this
     rw [if_pos (by simpa using h0)] at this
     simp [ht] at this
     exact this (by simpa using h4)
    clear HW0 HW1 HPB
    go_wp2_with fail
    go_quiet (fail)
    clear d0 d1 hwr hp0 hp1 htn hd hd' hd2 x0 y0 y1 h0 h4 ht
    have EE := Lib.hid ((Ext.refl w1).drewN nq)
    have S2 := Lib.hid (S1.out.ext EE.out)
    clear S1 EE CLR
    generalize w1.drewN nq = W2 at *
    go_wp2_with fail
    refine (HC.out.ex0 W2 r (some ⟨b, o2, none⟩) c z s S2.out.rd hf).mono ?_
    intro e w3 hE
    cases hx : (pz z f).ex 0 s with
    | error y =>
     obtain ⟨rfl, o3⟩ := hE.no hx
     have HR3 := Lib.hid (show res = .error y by rw [← HR.out, hx])
     clear hE hx
     go_wp2_with fail
     exact ⟨rfl, S2.out.giv HR3.out o3⟩
    | ok y =>
     obtain ⟨x, s3⟩ := y
     obtain ⟨v, rfl, hv, r3, o3⟩ := hE.yes hx
     obtain ⟨qn, mn, ql, ml, rfl⟩ := EncN.open hv
     have HR3 := Lib.hid (show res = .ok (ndK 19 [x], s3) by rw [← HR.out, hx])
     have S3 := (S2.out.got o3 r3 hv).one (x := x) (List.mem_cons_self ..)
     obtain ⟨nl, hnl⟩ : ∃ n, x.names.length = n := ⟨_, rfl⟩
     obtain ⟨kl, hkl⟩ : ∃ n, x.kids.length = n := ⟨_, rfl⟩
     rw [hnl, hkl] at S3 ⊢
     have HS3 := Lib.hid S3
     obtain ⟨_, _, _, _, _, _, f0, f1, f2, f3, f4, f5⟩ := S3.six
     have hlt := (S3.fst (List.mem_cons_self ..)).2
     clear hE hx r3 o3 hv hnl hkl S2 S3
     go_wp2_with fail
     exact bodyPost_ret (v := ndV (ndK 19 [x]) (.slice none 0 0) (.slice (some ⟨w3.heap.size, 0, none⟩) 1 1)) (by simp [results, Tryz.results310, go_sem, *, ndK_k, ndK_name, ndK_text, ndK_n]) rfl (HS3.out.fin (by intro p hp; cases hp) _ _ HR3.out fun W' hW' => PtAt.mk _ _ 19 0 _ _ (PtAt.tx0 _ _) (hW'.pt (List.mem_cons_self ..)))
theorem ndT_k (s : ByteArray) : (ndT s).k = 14 := rfl
theorem ndT_name (s : ByteArray) : (ndT s).name = ⟨#[]⟩ := rfl
theorem ndT_text (s : ByteArray) : (ndT s).text = s := rfl
theorem ndT_n (s : ByteArray) : (ndT s).n = 0 := rfl
theorem item_eq {f : Nat} (hC : Con f) (w : World) (r : Nat) (q : Option Addr) (c : Nat) (z : Wz) (s : Ps) (h : RdAt w r q c z s) (hf : 10 * (z.ws.length - s.p) + 8 ≤ f) (hb : isW z s.p [91] = false) (hpb : pairB z s.p = true) :
  Calls Tryz.prog 310 #[.pointer (some ⟨r, 0, none⟩)] w (RdR (EncN w) w r q c z (itemR z (pz z f) s)) := by
 obtain ⟨res, hres⟩ : ∃ res, itemR z (pz z f) s = res := ⟨_, rfl⟩
 rw [hres]
 have HC := Lib.hid hC
 have H0 := Lib.hid ((St.start h).newK ndZ)
 have hle := h.le
 have hlen := h.len
 have hlow := h.lt
 obtain ⟨wd, hnm, h61, heq⟩ := itemR_eq (r := pz z f) hb hpb
 rw [heq] at hres
 have HNM := Lib.hid hnm
 have H61 := Lib.hid h61
 clear hnm h61 heq
 have HR := Lib.hid hres
 have cT := take_any (w.alloc ndZ) r q c z s [91] H0.out.rd
 rw [hb, skipP_no hb] at cT
 clear hres h hC hb
 go_enter Tryz.func310, Tryz.ntmps310
 go_wp2_with fail
 refine cT.mono ?_
 rintro e w1 ⟨rfl, r1, o1⟩
 have S1 := Lib.hid (H0.out.call o1 r1)
 clear r1 o1 cT H0
 obtain ⟨d0, d1, _⟩ := S1.out.rd.four
 have hwr : IntKind.i64.wrap ((s.p : Int) + 1) = (s.p : Int) + 1 := IntWalk.i64_in _ (by omega)
 have hp0 : (0 : Int) ≤ (s.p : Int) := by omega
 have hp1 : (0 : Int) ≤ (s.p : Int) + 1 := by omega
 have htn : ((s.p : Int) + 1).toNat = s.p + 1 := by omega
 have hlt : s.p + 1 < z.ws.length := by
  have := H61.out
  exact isW_lt this
 have HPB := Lib.hid hpb
 clear hpb
 have hd : decide ((s.p : Int) + 1 < (z.ws.length : Int)) = true := decide_eq_true (by omega)
 have hd' : (s.p : Int) + 1 < (z.ws.length : Int) := by omega
 have hd2 : (s.p : Int) < (z.ws.length : Int) := by omega
 obtain ⟨b, o2, hq, hbr, x0, _, _, _⟩ := S1.out.rd.words s.p (by omega)
 obtain ⟨b', o2', hq', _, y0, y1, _, _⟩ := S1.out.rd.words (s.p + 1) (by omega)
 obtain ⟨rfl, rfl⟩ : b = b' ∧ o2 = o2' := by rw [hq] at hq'; cases hq'; exact ⟨rfl, rfl⟩
 subst hq
 clear hq'
 have HW0 := Lib.hid (List.getElem?_eq_getElem (l := z.ws) (show s.p < z.ws.length by omega))
 have HW1 := Lib.hid (List.getElem?_eq_getElem (l := z.ws) hlt)
 generalize z.ws[s.p] = u0 at *
 generalize z.ws[s.p + 1] = u1 at *
 have hall : (u0.k == 0) = true ∧ (u1.k == 4) = true ∧ (u1.t == [61]) = true := by
  have := HPB.out
  unfold pairB kindW at this
  rw [HW0.out, HW1.out] at this
  simp only at this
  split at this
  ·rename_i w1 w2 h1 h2
   split at h1
   ·rename_i hk
    cases h2
    have h3 := of_decide_eq_true this
    exact ⟨by simpa using hk, by simpa using h3.1, by simpa using h3.2⟩
   ·cases h1
  ·cases this
 obtain ⟨h0, h4, ht⟩ := hall
 clear HW0 HW1 HPB
 go_wp2_with fail
 go_quiet (fail)
 clear d0 d1 hwr hp0 hp1 htn hd hd' hd2 x0 y0 y1 h0 h4 ht
 have S2 := Lib.hid (S1.out.ext ((Ext.refl w1).drewN nq))
 clear S1
 generalize w1.drewN nq = W2 at *
 go_wp2_with fail
 refine (name_any' W2 r (some ⟨b, o2, none⟩) c z s S2.out.rd).mono ?_
 intro e w3 hE
 obtain ⟨v, rfl, hv, r3, o3⟩ := hE.yes HNM.out
 obtain rfl : v = .string ⟨wd.t.toArray⟩ := hv
 obtain ⟨xs, hxs⟩ : ∃ xs : ByteArray, (⟨wd.t.toArray⟩ : ByteArray) = xs := ⟨_, rfl⟩
 rw [hxs] at HR ⊢
 have S3 := Lib.hid ((((S2.out.call o3 r3).add (p := .nd (ndV (ndT xs) (.slice none 0 0) (.slice none 0 0)) (ndT xs)) (PtAt.mk _ _ 14 0 _ _ (PtAt.tx0 _ _) (PtAt.kd0 _ _)))).newbox (.int .i64 14) [.string ⟨#[]⟩, .string xs, .int .i64 0, .slice none 0 0, .slice none 0 0] 28)
 clear hE r3 o3 hxs S2
 go_wp2_with fail
 generalize w3.alloc (.cells #[.int .i64 14, .string ⟨#[]⟩, .string xs, .int .i64 0, .slice none 0 0, .slice none 0 0] 28) = W3 at *
 refine (want_any W3 r (some ⟨b, o2, none⟩) c z ⟨s.p + 1, s.o⟩ [61] S3.out.rd).mono ?_
 intro e W2 hE
 obtain ⟨v, rfl, hv, r4, o4⟩ := hE.yes (wantP_yes H61.out)
 obtain ⟨s2, hs2⟩ : ∃ s2 : Ps, (⟨s.p + 2, s.o⟩ : Ps) = s2 := ⟨_, rfl⟩
 have hf2 : 10 * (z.ws.length - s2.p) + 8 ≤ f := by rw [← hs2]; simp only; omega
 rw [show (⟨s.p + 1 + 1, s.o⟩ : Ps) = s2 from hs2] at r4
 have HRX := Lib.hid (show (match (pz z f).ex 0 s2 with | .error e => .error e | .ok (y, s3) => .ok (ndK 20 [ndT xs, y], s3)) = res by rw [← hs2]; exact HR.out)
 have S2 := Lib.hid (S3.out.call o4 r4)
 clear hE hv r4 o4 S3 hs2 HR HNM H61
 obtain ⟨_, l4, y0, y1, y2, y3, y4, y5⟩ := S2.out.box6 (List.mem_cons_self ..)
 have MEM : Hid (Pt.nd (ndV (ndT xs) (.slice none 0 0) (.slice none 0 0)) (ndT xs) ∈ [Pt.bx w3.heap.size (.int .i64 14) [.string ⟨#[]⟩, .string xs, .int .i64 0, .slice none 0 0, .slice none 0 0], Pt.nd (ndV (ndT xs) (.slice none 0 0) (.slice none 0 0)) (ndT xs)]) := Lib.hid (List.mem_cons_of_mem _ (List.mem_cons_self ..))
 have BXM : Hid (Pt.bx w3.heap.size (.int .i64 14) [.string ⟨#[]⟩, .string xs, .int .i64 0, .slice none 0 0, .slice none 0 0] ∈ [Pt.bx w3.heap.size (.int .i64 14) [.string ⟨#[]⟩, .string xs, .int .i64 0, .slice none 0 0, .slice none 0 0], Pt.nd (ndV (ndT xs) (.slice none 0 0) (.slice none 0 0)) (ndT xs)]) := Lib.hid (List.mem_cons_self ..)
 have NEB := Lib.hid (S2.out.bxne (k := w.heap.size) (o := ndZ) (List.mem_cons_self ..) (by simp))
 generalize w3.heap.size = B3 at *
 go_wp2_with fail
 refine wp_region_held_drew (S := fun w' => w'.cell? ⟨B3, 0, none⟩ = some (.int .i64 14) ∧ w'.cell? ⟨B3, 1, none⟩ = some (.string ⟨#[]⟩) ∧ w'.cell? ⟨B3, 2, none⟩ = some (.string xs) ∧ w'.cell? ⟨B3, 3, none⟩ = some (.int .i64 0) ∧ w'.cell? ⟨B3, 4, none⟩ = some (.slice none 0 0) ∧ w'.cell? ⟨B3, 5, none⟩ = some (.slice none 0 0)) (by kernel_rfl) (⟨y0, y1, y2, y3, y4, y5⟩) (fun hHeld => ?_)
 refine tkH (i := 0) (v := ?_) ?_
 (try simp only [Act.put, List.setIfInBounds_toArray, List.set_cons_zero, List.set_cons_succ])
 refine tkH (i := 1) (v := ?_) ?_
 (try simp only [Act.put, List.setIfInBounds_toArray, List.set_cons_zero, List.set_cons_succ])
 refine wpAnyH_ready (rs := [2]) (by kernel_rfl) (by simp) ?_
 refine AllReadyH.cons rfl (fun K hK => ?_) AllReadyH.nil
 go_simp
 refine (HC.out.ex0 W2.drew r (some ⟨b, o2, none⟩) c z s2 S2.out.drew.rd hf2).mono ?_
 intro e w3 hE
 cases hx : (pz z f).ex 0 s2 with
 | error y =>
  obtain ⟨rfl, o3⟩ := hE.no hx
  exact ⟨rfl, S2.out.drew.giv (by rw [← HRX.out, hx]) o3⟩
 | ok y =>
 obtain ⟨x2, s3⟩ := y
 obtain ⟨v2, rfl, hv, r3, o3⟩ := hE.yes hx
 obtain ⟨qn2, mn2, ql2, ml2, rfl⟩ := EncN.open hv
 have HR3 := Lib.hid (show res = .ok (ndK 20 [ndT xs, x2], s3) by rw [← HRX.out, hx])
 have S3 := Lib.hid ((S2.out.drew.got o3 r3 hv).two (x := ndT xs) (y := x2) (nx := .slice none 0 0) (lx := .slice none 0 0) (List.mem_cons_of_mem _ MEM.out) (List.mem_cons_self ..))
 obtain ⟨_, l7, z0, z1, z2, z3, z4, z5⟩ := (S2.out.drew.got o3 r3 hv).box6 (List.mem_cons_of_mem _ BXM.out)
 obtain ⟨nl2, hnl2⟩ : ∃ n, x2.names.length = n := ⟨_, rfl⟩
 obtain ⟨kl2, hkl2⟩ : ∃ n, x2.kids.length = n := ⟨_, rfl⟩
 rw [hnl2, hkl2] at S3 ⊢
 simp only [ndT_k, ndT_name, ndT_text, ndT_n] at S3
 clear hE hx r3 o3 hv hnl2 hkl2 S2
 clear hHeld
 refine hK.out _ _ (⟨z0, z1, z2, z3, z4, z5⟩) (fun hHeld => ?_)
 clear hK K
 (try simp only [Act.put, List.setIfInBounds_toArray, List.set_cons_zero, List.set_cons_succ])
 refine wpAnyH_ready (rs := [3]) (by kernel_rfl) (by simp) ?_
 refine AllReadyH.cons rfl (fun K hK => ?_) AllReadyH.nil
 go_simp
 clear hHeld
 refine hK.out _ _ ?_ (fun hHeld => ?_)
 focus (
  (try dsimp only)
  go_keep)
 clear hK K
 (try simp only [Act.put, List.setIfInBounds_toArray, List.set_cons_zero, List.set_cons_succ])
 refine tkH (i := 4) (v := ?_) ?_
 (try simp only [Act.put, List.setIfInBounds_toArray, List.set_cons_zero, List.set_cons_succ])
 refine wpAnyH_ready (rs := [5]) (by kernel_rfl) (by simp) ?_
 refine AllReadyH.cons rfl (fun K hK => ?_) AllReadyH.nil
 obtain ⟨ne1, ne2⟩ := NEB.out
 obtain ⟨_, _, _, _, _, _, f0, f1, f2, f3, f4, f5⟩ := S3.out.six
 have hlt := (S3.out.fst (List.mem_cons_self ..)).2
 go_simp
 clear hHeld
 refine hK.out _ _ ?_ (fun hHeld => ?_)
 focus (
  (try dsimp only)
  go_keep)
 clear hK K
 (try simp only [Act.put, List.setIfInBounds_toArray, List.set_cons_zero, List.set_cons_succ])
 refine wpAnyH_done (by kernel_rfl) ?_ _
 go_wp2_with fail
 exact bodyPost_ret (v := ndV (ndK 20 [ndT xs, x2]) (.slice none 0 0) (.slice (some ⟨w3.heap.size, 0, none⟩) 2 2)) (by simp [results, Tryz.results310, go_sem, *, ndK_k, ndK_name, ndK_text, ndK_n]) rfl (S3.out.fin (by intro p hp; cases hp) _ _ HR3.out fun W' hW' => PtAt.mk _ _ 20 0 _ _ (PtAt.tx0 _ _) (hW'.pt (List.mem_cons_self ..)))
theorem item_any {f : Nat} (hC : Con f) (w : World) (r : Nat) (q : Option Addr) (c : Nat) (z : Wz) (s : Ps) (h : RdAt w r q c z s) (hf : 10 * (z.ws.length - s.p) + 8 ≤ f) :
  Calls Tryz.prog 310 #[.pointer (some ⟨r, 0, none⟩)] w (RdR (EncN w) w r q c z (itemR z (pz z f) s)) := by
 cases hb : isW z s.p [91] with
 | true => exact item_br hC w r q c z s h hf hb
 | false => cases hp : pairB z s.p with
  | true => exact item_eq hC w r q c z s h hf hb hp
  | false => exact item_no hC w r q c z s h hf hb hp
def wpAnyG (P : Program) (md : Region.Mode) (ops : Array Oper) (Q : Exit → Act → World → Prop) (S : World → Prop) (g : Nat) : Nat → Array Bool → Act → World → Prop
 | 0, listed, a, w => Region.ready md ops listed = [] ∧ Q .normal a w
 | fuel + 1, listed, a, w => (Region.ready md ops listed = [] → Q .normal a w) ∧
  ∀ i ∈ Region.ready md ops listed, wpOp P ops Q i (fun a' w' => ((listed.setIfInBounds i true).getD g false = false → S w') ∧ wpAnyG P md ops Q S g fuel (listed.setIfInBounds i true) a' w') a w
section
variable {P : Program} {ops : Array Oper} {Q : Exit → Act → World → Prop} {md : Region.Mode} {S : World → Prop} {g : Nat}
theorem wpAnyG.any : ∀ (fuel : Nat) (listed : Array Bool) (a : Act) (w : World), wpAnyG P md ops Q S g fuel listed a w → wpAny P md ops Q fuel listed a w
 | 0, _, _, _, h => h
 | fuel + 1, _, _, _, h => ⟨h.1, fun i hi => wpOp_mono (fun a' w' h' => wpAnyG.any fuel _ a' w' h'.2) (h.2 i hi)⟩
def waitB (md : Region.Mode) (ops : Array Oper) (g i : Nat) : Bool := match ops[g]? with | some o => o.after.any fun e => Region.binds md e && e.on == i | none => false
theorem not_ready {i j : Nat} {oj : Oper} {listed : Array Bool} (hi : i ∈ Region.ready md ops listed) (hj : j ∈ Region.ready md ops listed) (hoj : ops[j]? = some oj) {e : Edge} (he : e ∈ oj.after) (hb : Region.binds md e = true) (hon : e.on = i) : False := by
 obtain ⟨h0, _⟩ := mem_ready.1 hi
 obtain ⟨_, oj', hoj', hall⟩ := mem_ready.1 hj
 rw [hoj] at hoj'
 obtain rfl := Option.some.inj hoj'
 have h1 := hall e he hb
 rw [hon] at h1
 rcases Nat.lt_or_ge i listed.size with h' | h'
 ·simp [h'] at h0 h1; rw [h0] at h1; cases h1
 ·simp [Array.getElem?_eq_none h'] at h1
theorem not_waits {i j : Nat} {oj : Oper} {listed : Array Bool} (hi : i ∈ Region.ready md ops listed) (hj : j ∈ Region.ready md ops listed) (hoj : ops[j]? = some oj) : ∀ e ∈ oj.after, Region.binds md e = true → e.on ≠ i :=
 fun e he hb hon => not_ready hi hj hoj he hb hon
theorem wpAnyG_first {i : Nat} {oi : Oper} {v : Value} {T : World → Prop} (hi : ops[i]? = some oi) (hsel : ∀ (j : Nat) (o : Oper) cs b, ops[j]? = some o → o.op ≠ .select cs b)
  (hQ : ∀ c a w, Q (.panic c) (a.put oi.dst v) w → Q (.panic c) a w) (hT : (∀ w, T w) ∧ i ≠ g ∨ T = S ∧ waitB md ops g i = true) :
  ∀ (fuel : Nat) (listed : Array Bool) (a : Act) (w : World),
   (∀ j oj, ops[j]? = some oj → j ≠ i → listed.getD j true = false → (∀ e ∈ oj.after, Region.binds md e = true → e.on ≠ i) → oi.apart ops oj = true) →
   i ∈ Region.ready md ops listed → ((∀ w, T w) ∨ listed.getD g false = false) → YieldsIf P ops T oi v a → T w → (listed.getD g false = false → S w) →
   wpAnyG P md ops Q S g fuel (listed.setIfInBounds i true) (a.put oi.dst v) w → wpAnyG P md ops Q S g (fuel + 1) listed a w := by
 have hwait : waitB md ops g i = true → ∃ og, ops[g]? = some og ∧ ∃ e ∈ og.after, Region.binds md e = true ∧ e.on = i := by
  intro h
  unfold waitB at h
  cases hg : ops[g]? with
  | none => rw [hg] at h; simp at h
  | some og =>
   rw [hg] at h
   simp only [Array.any_eq_true', Bool.and_eq_true, beq_iff_eq] at h
   obtain ⟨e, he, h1, h2⟩ := h
   exact ⟨og, rfl, e, he, h1, h2⟩
 have hgi : ∀ listed, i ∈ Region.ready md ops listed → i ≠ g := fun listed hr => by
  rcases hT with h | ⟨_, h⟩
  ·exact h.2
  ·rintro rfl
   obtain ⟨og, h1, e, h2, h3, h4⟩ := hwait h
   exact not_ready hr hr h1 h2 h3 h4
 intro fuel
 induction fuel with
 | zero =>
  intro listed a w _ hr hgl hy hTw hSw H
  have hig := hgi listed hr
  refine ⟨fun h => (by rw [h] at hr; cases hr), fun j hj => ?_⟩
  by_cases hji : j = i
  ·subst hji
   exact hy.wpOp hi hTw ⟨fun h => hSw (by rwa [getD_set_ne false hig] at h), H⟩
  ·have := ready_mono hj hji
   rw [H.1] at this
   cases this
 | succ fuel ih =>
  intro listed a w hfree hr hgl hy hTw hSw H
  have hig := hgi listed hr
  refine ⟨fun h => (by rw [h] at hr; cases hr), fun j hj => ?_⟩
  by_cases hji : j = i
  ·subst hji
   exact hy.wpOp hi hTw ⟨fun h => hSw (by rwa [getD_set_ne false hig] at h), H⟩
  ·have h1 := H.2 j (ready_mono hj hji)
   obtain ⟨hjun, oj, hoj, hall⟩ := mem_ready.1 hj
   have hnot := not_waits hr hj hoj
   have h2 := wpOp_putIf hoj (hfree j oj hoj hji hjun hnot) (fun cs b => hsel i oi cs b hi) (fun cs b => hsel j oj cs b hoj) hQ hy h1
   have hfree' : ∀ k ok, ops[k]? = some ok → k ≠ i → (listed.setIfInBounds j true).getD k true = false →
     (∀ e ∈ ok.after, Region.binds md e = true → e.on ≠ i) → oi.apart ops ok = true := fun k ok hk hki hun hno => by
    refine hfree k ok hk hki ?_ hno
    by_cases hjk : j = k
    ·subst hjk; exact hjun
    ·rw [getD_set_ne true hjk] at hun; exact hun
   have hcomm : ∀ (d : Bool) (k : Nat), i ≠ k → ((listed.setIfInBounds i true).setIfInBounds j true).getD k d = (listed.setIfInBounds j true).getD k d := fun d k hk => by
    rw [Array.setIfInBounds_comm _ _ (Ne.symm hji), getD_set_ne d hk]
   refine wpOp_mono (fun a' w' h3 => ?_) h2
   have hSw' : (listed.setIfInBounds j true).getD g false = false → S w' := fun h => h3.2.1 (by rw [hcomm false g hig]; exact h)
   have hgl' : (∀ w, T w) ∨ (listed.setIfInBounds j true).getD g false = false := by
    rcases hT with h | ⟨_, hw⟩
    ·exact .inl h.1
    ·obtain ⟨og, g1, e, g2, g3, g4⟩ := hwait hw
     have hjg : j ≠ g := by
      rintro rfl
      exact not_ready hr hj g1 g2 g3 g4
     rw [getD_set_ne false hjg]
     rcases hgl with h | h
     ·exact .inl h
     ·exact .inr h
   have hTw' : T w' := by
    rcases hT with h | h
    ·exact h.1 w'
    ·rcases hgl' with h' | h'
     ·exact h' w'
     ·rw [h.1]; exact hSw' h'
   refine ⟨hSw', ih (listed.setIfInBounds j true) a' w' hfree' (ready_mono hr (Ne.symm hji)) hgl' h3.1 hTw' hSw' ?_⟩
   rw [Array.setIfInBounds_comm _ _ hji]
   exact h3.2.2
theorem wpAnyG_take {i : Nat} {oi : Oper} {v : Value} {fuel : Nat} {listed : Array Bool} {a : Act} {w : World} (hi : ops[i]? = some oi)
  (hs : Region.noSelect ops = true) (hf : Region.free md ops listed i = true) (hr : (Region.ready md ops listed).contains i = true) (hg : waitB md ops g i = true) (hl : listed.getD g false = false)
  (hQ : ∀ c a w, Q (.panic c) (a.put oi.dst v) w → Q (.panic c) a w) (hy : YieldsIf P ops S oi v a) (hS : S w)
  (h : wpAnyG P md ops Q S g fuel (listed.setIfInBounds i true) (a.put oi.dst v) w) : wpAnyG P md ops Q S g (fuel + 1) listed a w :=
 wpAnyG_first (T := S) hi (Region.noSelect_spec hs) hQ (.inr ⟨rfl, hg⟩) fuel listed a w (Region.free_spec hi hf) (by simpa using hr) (.inr hl) hy hS (fun _ => hS) h
theorem wpAnyG_pure {i : Nat} {oi : Oper} {v : Value} {fuel : Nat} {listed : Array Bool} {a : Act} {w : World} (hi : ops[i]? = some oi)
  (hs : Region.noSelect ops = true) (hf : Region.free md ops listed i = true) (hr : (Region.ready md ops listed).contains i = true) (hg : (i == g) = false)
  (hQ : ∀ c a w, Q (.panic c) (a.put oi.dst v) w → Q (.panic c) a w) (hy : YieldsIf P ops (fun _ => True) oi v a) (hS : listed.getD g false = false → S w)
  (h : wpAnyG P md ops Q S g fuel (listed.setIfInBounds i true) (a.put oi.dst v) w) : wpAnyG P md ops Q S g (fuel + 1) listed a w :=
 wpAnyG_first (T := fun _ => True) hi (Region.noSelect_spec hs) hQ (.inl ⟨fun _ => trivial, beq_eq_false_iff_ne.1 hg⟩) fuel listed a w (Region.free_spec hi hf) (by simpa using hr) (.inl fun _ => trivial) hy trivial hS h
def AllReadyG (P : Program) (md : Region.Mode) (ops : Array Oper) (Q : Exit → Act → World → Prop) (S : World → Prop) (g : Nat) (fuel : Nat) (listed : Array Bool) (a : Act) (w : World) (rs : List Nat) : Prop :=
 ∀ i ∈ rs, wpOp P ops Q i (fun a' w' => ((listed.setIfInBounds i true).getD g false = false → S w') ∧ wpAnyG P md ops Q S g fuel (listed.setIfInBounds i true) a' w') a w
theorem AllReadyG.nil {fuel : Nat} {listed : Array Bool} {a : Act} {w : World} : AllReadyG P md ops Q S g fuel listed a w [] := fun _ h => by cases h
theorem AllReadyG.held {fuel : Nat} {listed : Array Bool} {a : Act} {w : World} {i : Nat} {o : Oper} {rs : List Nat} (ho : ops[i]? = some o)
  (h : ∀ K' : Act → World → Prop, Shut (∀ a w, S w → (S w → wpAnyG P md ops Q S g fuel (listed.setIfInBounds i true) a w) → K' a w) → if Region.wanted o (yielded ops a.tmps) = true then Oper.wp P o a w K' Q else K' (a.put o.dst undef) w)
  (hs : AllReadyG P md ops Q S g fuel listed a w rs) : AllReadyG P md ops Q S g fuel listed a w (i :: rs) := fun j hj => by
 rcases List.mem_cons.1 hj with rfl | hj
 ·exact wpOp_step ho (fun K' hK => h K' (fun a w hS hW => hK a w ⟨fun _ => hS, hW hS⟩))
 ·exact hs j hj
theorem AllReadyG.free {fuel : Nat} {listed : Array Bool} {a : Act} {w : World} {i : Nat} {o : Oper} {rs : List Nat} (ho : ops[i]? = some o) (hl : (listed.setIfInBounds i true).getD g false = true)
  (h : ∀ K' : Act → World → Prop, Shut (∀ a w, wpAnyG P md ops Q S g fuel (listed.setIfInBounds i true) a w → K' a w) → if Region.wanted o (yielded ops a.tmps) = true then Oper.wp P o a w K' Q else K' (a.put o.dst undef) w)
  (hs : AllReadyG P md ops Q S g fuel listed a w rs) : AllReadyG P md ops Q S g fuel listed a w (i :: rs) := fun j hj => by
 rcases List.mem_cons.1 hj with rfl | hj
 ·exact wpOp_step ho (fun K' hK => h K' (fun a w hW => hK a w ⟨(fun hf => by rw [hl] at hf; cases hf), hW⟩))
 ·exact hs j hj
theorem wpAnyG_ready {rs : List Nat} {fuel : Nat} {listed : Array Bool} {a : Act} {w : World} (hr : Region.ready md ops listed = rs) (hne : rs ≠ [])
  (h : AllReadyG P md ops Q S g fuel listed a w rs) : wpAnyG P md ops Q S g (fuel + 1) listed a w := ⟨fun h0 => absurd (hr ▸ h0) hne, hr ▸ h⟩
theorem wpAnyG_done {listed : Array Bool} {a : Act} {w : World} (hr : Region.ready md ops listed = []) (h : Q .normal a w) : ∀ fuel, wpAnyG P md ops Q S g fuel listed a w
 | 0 => ⟨hr, h⟩
 | _ + 1 => ⟨fun _ => h, by rw [hr]; simp⟩
theorem wp_region_gate {id : Nat} {a : Act} {w : World} (hm : P.follows .mixedOrders = true) (hS : S w.drew)
  (h : S w.drew → wpAnyG P .any ops Q S g ops.size (Array.replicate ops.size false) a w.drew) : (Code.region id ops true).wp P Q a w :=
 wp_region_any hm (wpAnyG.any _ _ _ _ (h hS))
end
section
variable {P : Program} {ops : Array Oper} {Q : Exit → Act → World → Prop} {md : Region.Mode} {S : World → Prop} {g : Nat}
theorem tkG {i : Nat} {oi : Oper} {v : Value} {fuel : Nat} {listed : Array Bool} {a : Act} {w : World} (h : wpAnyG P md ops Q S g fuel (listed.setIfInBounds i true) (a.put oi.dst v) w)
  (hi : ops[i]? = some oi := by exact rfl) (hs : Region.noSelect ops = true := by kernel_rfl) (hf : Region.free md ops listed i = true := by kernel_rfl) (hr : (Region.ready md ops listed).contains i = true := by kernel_rfl) (hg : waitB md ops g i = true := by kernel_rfl) (hl : listed.getD g false = false := by kernel_rfl)
  (hQ : ∀ c a w, Q (.panic c) (a.put oi.dst v) w → Q (.panic c) a w := by exact fun _ _ _ h => h)
  (hy : YieldsIf P ops S oi v a := by exact Or.inl ⟨by rfl, by intro w hSw; (try dsimp only at hSw); go_simp; first | done | with_reducible rfl⟩) (hS : S w := by assumption) : wpAnyG P md ops Q S g (fuel + 1) listed a w :=
 wpAnyG_take hi hs hf hr hg hl hQ hy hS h
theorem puG {i : Nat} {oi : Oper} {v : Value} {fuel : Nat} {listed : Array Bool} {a : Act} {w : World} (h : wpAnyG P md ops Q S g fuel (listed.setIfInBounds i true) (a.put oi.dst v) w)
  (hi : ops[i]? = some oi := by exact rfl) (hs : Region.noSelect ops = true := by kernel_rfl) (hf : Region.free md ops listed i = true := by kernel_rfl) (hr : (Region.ready md ops listed).contains i = true := by kernel_rfl) (hg : (i == g) = false := by kernel_rfl)
  (hQ : ∀ c a w, Q (.panic c) (a.put oi.dst v) w → Q (.panic c) a w := by exact fun _ _ _ h => h)
  (hy : YieldsIf P ops (fun _ => True) oi v a := by exact Or.inl ⟨by rfl, by intro w hSw; (try dsimp only at hSw); go_simp; first | done | with_reducible rfl⟩) (hS : listed.getD g false = false → S w := by exact fun _ => (by assumption)) : wpAnyG P md ops Q S g (fuel + 1) listed a w :=
 wpAnyG_pure hi hs hf hr hg hQ hy hS h
end
end Go.Proofs.YtkbcnacjaakleaaGreatDoor
namespace Go.Proofs.YtkbcnacjaakleaaGreatDoor
open Go.RowKit

theorem set_last {α : Type} (A : List α) (a0 a1 a2 a3 a4 a5 b0 b1 b2 b3 b4 b5 : α) :
  ((((((A ++ [a0, a1, a2, a3, a4, a5]).set A.length b0).set (A.length + 1) b1).set (A.length + 2) b2).set (A.length + 3) b3).set (A.length + 4) b4).set (A.length + 5) b5 = A ++ [b0, b1, b2, b3, b4, b5] := by
 have e : ∀ (B : List α) (i : Nat) (b : α), (A ++ B).set (A.length + i) b = A ++ B.set i b := fun B i b => by
  rw [List.set_append_right _ _ (by omega)]
  congr 2
  omega
 have e0 : ∀ (B : List α) (b : α), (A ++ B).set A.length b = A ++ B.set 0 b := fun B b => by
  exact e B 0 b
 rw [e0, e, e, e, e, e]
 rfl
abbrev put6at (W : World) (b o : Nat) (u0 u1 u2 u3 u4 u5 : Value) : World := (((((W.setCell ⟨b, o, none⟩ u0).setCell ⟨b, o + 1, none⟩ u1).setCell ⟨b, o + 2, none⟩ u2).setCell ⟨b, o + 3, none⟩ u3).setCell ⟨b, o + 4, none⟩ u4).setCell ⟨b, o + 5, none⟩ u5
theorem put6at_far (W : World) (b o : Nat) (u0 u1 u2 u3 u4 u5 : Value) (k : Nat) (hk : k ≠ b) : (put6at W b o u0 u1 u2 u3 u4 u5).heap[k]? = W.heap[k]? :=
 (Below.heap_setCell _ _ _ k hk).trans ((Below.heap_setCell _ _ _ k hk).trans ((Below.heap_setCell _ _ _ k hk).trans ((Below.heap_setCell _ _ _ k hk).trans ((Below.heap_setCell _ _ _ k hk).trans (Below.heap_setCell _ _ _ k hk)))))
theorem put6at_size (W : World) (b o : Nat) (u0 u1 u2 u3 u4 u5 : Value) : (put6at W b o u0 u1 u2 u3 u4 u5).heap.size = W.heap.size := by simp [World.setCell]
theorem set_os (W : World) (p : Addr) (u : Value) : (W.setCell p u).os = W.os ∧ (W.setCell p u).tape = W.tape ∧ (W.setCell p u).output = W.output := ⟨rfl, rfl, rfl⟩
theorem put6at_os (W : World) (b o : Nat) (u0 u1 u2 u3 u4 u5 : Value) : (put6at W b o u0 u1 u2 u3 u4 u5).os = W.os ∧ (put6at W b o u0 u1 u2 u3 u4 u5).tape = W.tape ∧ (put6at W b o u0 u1 u2 u3 u4 u5).output = W.output := by
 unfold put6at
 refine ⟨?_, ?_, ?_⟩
 ·rw [(set_os _ _ _).1, (set_os _ _ _).1, (set_os _ _ _).1, (set_os _ _ _).1, (set_os _ _ _).1, (set_os _ _ _).1]
 ·rw [(set_os _ _ _).2.1, (set_os _ _ _).2.1, (set_os _ _ _).2.1, (set_os _ _ _).2.1, (set_os _ _ _).2.1, (set_os _ _ _).2.1]
 ·rw [(set_os _ _ _).2.2, (set_os _ _ _).2.2, (set_os _ _ _).2.2, (set_os _ _ _).2.2, (set_os _ _ _).2.2, (set_os _ _ _).2.2]
theorem St.last {w W : World} {r : Nat} {q : Option Addr} {c : Nat} {z : Wz} {s : Ps} {K : List (Nat × Obj)} {N : List Pt} {lv tv : Value} {l : List Nd} {tl : List ByteArray} {y : Nd} (h : St w W r q c z s K N lv (l ++ [y]) tv tl) :
  ∃ gb cap, lv = .slice (some ⟨gb, 0, none⟩) (l.length + 1) cap ∧ gb < W.heap.size ∧ (∀ j, W.frozen? ⟨gb, j, none⟩ = false) ∧ (∃ u0 u1 u2 u3 u4 u5, W.cell? ⟨gb, l.length * 6, none⟩ = some u0 ∧ W.cell? ⟨gb, l.length * 6 + 1, none⟩ = some u1 ∧ W.cell? ⟨gb, l.length * 6 + 2, none⟩ = some u2 ∧ W.cell? ⟨gb, l.length * 6 + 3, none⟩ = some u3 ∧ W.cell? ⟨gb, l.length * 6 + 4, none⟩ = some u4 ∧ W.cell? ⟨gb, l.length * 6 + 5, none⟩ = some u5) ∧
   (∀ b ∈ K.map (·.1), ¬ gb = b ∧ ¬ b = gb) ∧
   ∀ (x : Nd) (nv lv' : Value), Pt.nd (ndV x nv lv') x ∈ N → St w (put6at W gb (l.length * 6) (.int .i64 x.k) (.string x.name) (.string x.text) (.int .i64 x.n) nv lv') r q c z s K N lv (l ++ [x]) tv tl := by
 obtain ⟨d, rows, e1, e2, e3⟩ := h.row.ex
 have hsort := h.row.sort
 have hlt := h.row.lt
 have hbox := h.row.box
 rcases List.eq_nil_or_concat rows with hr | ⟨rows0, yl, hr⟩
 ·rw [hr] at e1; simp at e1
 rw [List.concat_eq_append] at hr
 subst hr
 rw [List.map_append, List.map_cons, List.map_nil] at e1
 obtain ⟨rfl, hy⟩ := List.append_inj' e1 rfl
 rw [List.length_map]
 have hown := e2
 obtain ⟨b, cap, rfl, hB, hbl, hcp9, hx⟩ := e2.cells (by simp)
 obtain ⟨cs, hcs⟩ := hsort b rfl
 have hblk : Blk W b 28 cs := hcs
 obtain ⟨c0, c1, c2, c3, c4, c5⟩ := hx rows0.length yl (by simp)
 simp only [Nat.zero_add] at c0 c1 c2 c3 c4 c5
 refine ⟨b, cap, by simp, hbl, fun j => hblk.frozen j, ⟨_, _, _, _, _, _, c0, c1, c2, c3, c4, c5⟩, fun k hk => ⟨fun e => by subst e; exact hbox b rfl hk, fun e => by subst e; exact hbox k rfl hk⟩, fun x nv lv' hxN => ?_⟩
 have hlow := h.low
 obtain ⟨s0, h0⟩ := h.rd0
 obtain ⟨W', hW'⟩ : ∃ W', put6at W b (rows0.length * 6) (.int .i64 x.k) (.string x.name) (.string x.text) (.int .i64 x.n) nv lv' = W' := ⟨_, rfl⟩
 have hrow : OwnN W' w.heap.size (.slice (some ⟨b, 0, none⟩) (rows0 ++ [yl]).length cap) (rows0 ++ [(x, nv, lv')]) := by
  have hl : (rows0 ++ [(x, nv, lv')]).length = (rows0 ++ [yl]).length := by simp
  have o1 := hown
  unfold OwnN at o1 ⊢
  rw [← hW']
  rw [hl]
  have o6 := (World.ownsRow.stored (World.ownsRow.stored (World.ownsRow.stored (World.ownsRow.stored (World.ownsRow.stored (World.ownsRow.stored o1 (rows0.length * 6) (.int .i64 x.k)).1 (rows0.length * 6 + 1) (.string x.name)).1 (rows0.length * 6 + 2) (.string x.text)).1 (rows0.length * 6 + 3) (.int .i64 x.n)).1 (rows0.length * 6 + 4) nv).1 (rows0.length * 6 + 5) lv').1
  rw [List.flatMap_append, List.flatMap_cons, List.flatMap_nil, List.append_nil, ← ndC_len rows0] at o6
  rw [List.flatMap_append, List.flatMap_cons, List.flatMap_nil, List.append_nil]
  have hs6 := set_last (rows0.flatMap ndC) (.int .i64 yl.1.k) (.string yl.1.name) (.string yl.1.text) (.int .i64 yl.1.n) yl.2.1 yl.2.2 (.int .i64 x.k) (.string x.name) (.string x.text) (.int .i64 x.n) nv lv'
  have e6 : ndC yl = [.int .i64 yl.1.k, .string yl.1.name, .string yl.1.text, .int .i64 yl.1.n, yl.2.1, yl.2.2] := rfl
  rw [e6, hs6, ndC_len] at o6
  exact o6
 have hfar : ∀ k, k ≠ b → W'.heap[k]? = W.heap[k]? := fun k hk => by rw [← hW']; exact put6at_far _ _ _ _ _ _ _ _ _ k hk
 have hsz : W'.heap.size = W.heap.size := by rw [← hW']; exact put6at_size _ _ _ _ _ _ _ _ _
 have hos : W'.os = W.os ∧ W'.tape = W.tape ∧ W'.output = W.output := by rw [← hW']; exact put6at_os _ _ _ _ _ _ _ _ _
 rw [hW']
 clear hW'
 have hcell : ∀ k o u, k ≠ b → W.cell? ⟨k, o, none⟩ = some u → W'.cell? ⟨k, o, none⟩ = some u := fun k o u hk hc => by
  exact (World.cell?_of_block (hfar k hk)).trans hc
 have keep : ∀ k o u, okS w K (.slice (some ⟨b, 0, none⟩) (rows0 ++ [yl]).length cap) tv k → W.cell? ⟨k, o, none⟩ = some u → W'.cell? ⟨k, o, none⟩ = some u := fun k o u hk hc => hcell k o u (hk.row b rfl) hc
 obtain ⟨dx, nv', lv2, he, ht, hkd⟩ := h.pts _ hxN
 obtain ⟨rfl, rfl⟩ : nv = nv' ∧ lv' = lv2 := by
  simp only [ndV, Value.agg.injEq] at he
  have e4 := congrArg (fun a : Array Value => a[4]?) he
  have e5 := congrArg (fun a : Array Value => a[5]?) he
  exact ⟨by simpa using e4, by simpa using e5⟩
 refine ⟨h0.keep h.rd (fun k hk => hfar k (by omega)), ⟨s0, h0⟩, ⟨hos.1.trans h.only.os, hos.2.1.trans h.only.tape, hos.2.2.trans h.only.output, by rw [hsz]; exact h.only.size, fun k hk hn => (hfar k (by omega)).trans (h.only.block k hk hn)⟩, fun p hp => ?_, fun p hp => (h.pts p hp).keep keep (fun _ _ hb => hb), ⟨⟨max d dx, rows0 ++ [(x, nv, lv')], by simp, hrow, fun p hp => ?_⟩, hbox⟩, own_blk h.txt (fun g hg hl => hfar g (fun e => ?_)), h.tbox⟩
 ·obtain ⟨b1, b3⟩ := h.box p hp
  exact ⟨b1, (hfar p.1 (fun e => hbox b rfl (by rw [← e]; exact List.mem_map.2 ⟨p, hp, rfl⟩))).trans b3⟩
 ·rcases List.mem_append.1 hp with hp | hp
  ·have := e3 p (List.mem_append_left _ hp)
   exact ⟨this.1.keep keep (fun _ _ hb => hb), (this.2.keep keep (fun _ _ hb => hb)).upto (Nat.le_max_left _ _)⟩
  ·obtain rfl : p = (x, nv, lv') := by simpa using hp
   exact ⟨ht.keep keep (fun _ _ hb => hb), (hkd.keep keep (fun _ _ hb => hb)).upto (Nat.le_max_right _ _)⟩
 ·subst e
  obtain ⟨_, cs2, hc2⟩ := h.txt.sort g hg
  rw [hcs] at hc2
  injection Option.some.inj hc2 with _ e2
  exact absurd e2 (by decide)
end Go.Proofs.YtkbcnacjaakleaaGreatDoor
