/- choice: what stands behind if. -/
import Derived.Test.YtkbcnacjaakleaaGreatDoorYSy2
set_option maxRecDepth 100000
set_option maxHeartbeats 32000000
set_option linter.unusedVariables false
set_option linter.unusedSimpArgs false
namespace Go.Proofs.YtkbcnacjaakleaaGreatDoor
open Go.RowKit

def chFin (z : Wz) (r : Pz) (x : PR (List Nd)) : PR Nd := match x with
 | .error e => .error e
 | .ok (l, s1) =>
  if isW z s1.p tElse then (match openedR z r.st ⟨s1.p + 1, s1.o⟩ with
   | .error e => .error e
   | .ok (b, s2) => match wantP z s2 tEnd with | .error e => .error e | .ok (_, s3) => .ok (ndK 4 (l ++ [b]), s3))
  else match wantP z s1 tEnd with | .error e => .error e | .ok (_, s3) => .ok (ndK 4 l, s3)
theorem choiceR_fin {z : Wz} {r : Pz} {s : Ps} : choiceR z r s = chFin z r (branchL z r (z.ws.length + 1) s []) := rfl
theorem branchL_1 {z : Wz} {r : Pz} {k : Nat} {s : Ps} {acc : List Nd} {y : Int × Int} (h : r.ex 0 s = .error y) : branchL z r (k + 1) s acc = .error y := by unfold branchL; rw [h]
theorem branchL_2 {z : Wz} {r : Pz} {k : Nat} {s s1 : Ps} {acc : List Nd} {c : Nd} {y : Int × Int} (h : r.ex 0 s = .ok (c, s1)) (h2 : wantP z s1 tThen = .error y) : branchL z r (k + 1) s acc = .error y := by unfold branchL; rw [h]; simp only; rw [h2]
theorem branchL_3 {z : Wz} {r : Pz} {k : Nat} {s s1 s2 : Ps} {acc : List Nd} {c : Nd} {u : Unit} {y : Int × Int} (h : r.ex 0 s = .ok (c, s1)) (h2 : wantP z s1 tThen = .ok (u, s2)) (h3 : openedR z r.st s2 = .error y) : branchL z r (k + 1) s acc = .error y := by unfold branchL; rw [h]; simp only; rw [h2]; simp only; rw [h3]
theorem branchL_4 {z : Wz} {r : Pz} {k : Nat} {s s1 s2 s3 : Ps} {acc : List Nd} {c b : Nd} {u : Unit} (h : r.ex 0 s = .ok (c, s1)) (h2 : wantP z s1 tThen = .ok (u, s2)) (h3 : openedR z r.st s2 = .ok (b, s3)) :
  branchL z r (k + 1) s acc = if isW z s3.p tElseif then branchL z r k ⟨s3.p + 1, s3.o⟩ (acc ++ [c] ++ [b]) else .ok (acc ++ [c] ++ [b], s3) := by
 conv => lhs; unfold branchL
 rw [h]; simp only; rw [h2]; simp only; rw [h3]
theorem choice_any {f : Nat} (hC : Con f) (w : World) (r : Nat) (q : Option Addr) (c : Nat) (z : Wz) (s : Ps) (h : RdAt w r q c z s) (hf : 10 * (z.ws.length - s.p) + 9 ≤ f) :
  Calls Tryz.prog 177 #[.pointer (some ⟨r, 0, none⟩)] w (RdR (EncN w) w r q c z (choiceR z (pz z f) s)) := by
 obtain ⟨res, hres⟩ : ∃ res, choiceR z (pz z f) s = res := ⟨_, rfl⟩
 rw [hres]
 rw [choiceR_fin] at hres
 have HC := Lib.hid hC
 have H00 := ((St.start h).newK ndZ).newK (ndBx (.int .i64 4) (.string ⟨#[]⟩) (.string ⟨#[]⟩) (.int .i64 0) (.slice none 0 0) (.slice none 0 0))
 rw [size_alloc] at H00
 have H0 := Lib.hid H00
 have hlow := h.lt
 have HR := Lib.hid hres
 clear hres h hC H00
 go_enter Tryz.func177, Tryz.ntmps177
 go_wp2_with fail
 generalize (w.alloc ndZ).alloc (.cells #[.int .i64 4, .string ⟨#[]⟩, .string ⟨#[]⟩, .int .i64 0, .slice none 0 0, .slice none 0 0] 28) = W0 at *
 go_loopw [5] (fun s5 wr => ∃ (k : Nat) (s' : Ps) (acc : List Nd) (v : Value), Hid (St w wr r q c z s' [(w.heap.size + 1, ndBx (.int .i64 4) (.string ⟨#[]⟩) (.string ⟨#[]⟩) (.int .i64 0) (.slice none 0 0) v), (w.heap.size, ndZ)] [] v acc (.slice none 0 0) []) ∧ Hid (chFin z (pz z f) (branchL z (pz z f) k s' acc) = res) ∧ z.ws.length - s'.p < k ∧ acc.length ≤ s'.p ∧ 10 * (z.ws.length - s'.p) + 9 ≤ f) (fun _ wr => z.ws.length - nxt wr r)
 case atStart => exact ⟨_, s, [], _, H0, HR, by omega, by simp, hf⟩
 case round =>
  obtain ⟨k, s', acc, v, ST, SP, hk, hacc, hfk⟩ := hrel
  obtain ⟨k, rfl⟩ : ∃ k', k = k' + 1 := ⟨k - 1, by omega⟩
  obtain ⟨qv, mv, cv, rfl⟩ := ST.out.slice3
  have hle := ST.out.rd.le
  have hlen := ST.out.rd.len
  have hnx := ST.out.nxt
  go_wp2_with fail
  obtain ⟨_, _, _, _, _, y5, _⟩ := ST.out.six
  have SC := Lib.hid ST.out.drew
  cases hx : (pz z f).ex 0 s' with
  | error y =>
   have HRE := Lib.hid (show res = .error y by rw [← SP.out, branchL_1 hx]; rfl)
   have HX := Lib.hid hx
   clear hx ST
   refine wp_region_gate (S := fun w' => w'.cell? ⟨w.heap.size + 1, 5, none⟩ = some (.slice qv mv cv)) (g := 5) (by kernel_rfl) (y5) (fun hHeld => ?_)
   refine puG (i := 0) (v := ?_) ?_
   try simp only [Act.put, pzz]
   refine tkG (i := 1) (v := ?_) ?_
   try simp only [Act.put, pzz]
   refine puG (i := 2) (v := ?_) ?_
   try simp only [Act.put, pzz]
   refine wpAnyG_ready (rs := [3]) (by kernel_rfl) (by simp) ?_
   refine AllReadyG.held rfl (fun K hK => ?_) AllReadyG.nil
   go_simp
   refine (HC.out.ex0 _ r q c z s' SC.out.rd (by omega)).mono ?_
   intro e w3 hE
   obtain ⟨rfl, o3⟩ := hE.no HX.out
   exact ⟨rfl, SC.out.giv HRE.out o3⟩
  | ok y =>
   obtain ⟨xa, s1⟩ := y
   have g1 := And.intro (pz_ex_gt hx).1 (pz_ex_gt hx).2.1
   have HX2 := Lib.hid hx
   have HX := Lib.hid hx
   clear hx ST
   refine wp_region_gate (S := fun w' => w'.cell? ⟨w.heap.size + 1, 5, none⟩ = some (.slice qv mv cv)) (g := 5) (by kernel_rfl) (y5) (fun hHeld => ?_)
   refine puG (i := 0) (v := ?_) ?_
   try simp only [Act.put, pzz]
   refine tkG (i := 1) (v := ?_) ?_
   try simp only [Act.put, pzz]
   refine puG (i := 2) (v := ?_) ?_
   try simp only [Act.put, pzz]
   refine wpAnyG_ready (rs := [3]) (by kernel_rfl) (by simp) ?_
   refine AllReadyG.held rfl (fun K hK => ?_) AllReadyG.nil
   go_simp
   refine (HC.out.ex0 _ r q c z s' SC.out.rd (by omega)).mono ?_
   intro e w5 hE
   obtain ⟨v2, rfl, hv, r3, o3⟩ := hE.yes HX.out
   obtain ⟨qn2, mn2, ql2, ml2, rfl⟩ := EncN.open hv
   have SG := SC.out.got o3 r3 hv
   obtain ⟨_, _, _, _, _, z5, _⟩ := SG.six
   obtain ⟨v', W6, hrun, S4⟩ := SG.push (x := xa) (List.mem_cons_self ..) (by omega) 26
   obtain ⟨qa, ma, ca, rfl⟩ := S4.slice3
   obtain ⟨nl2, hnl2⟩ : ∃ n, xa.names.length = n := ⟨_, rfl⟩
   obtain ⟨kl2, hkl2⟩ : ∃ n, xa.kids.length = n := ⟨_, rfl⟩
   rw [hnl2, hkl2] at hrun ⊢
   obtain ⟨_, _, _, _, _, k5, _, _, _, _, _, m5⟩ := S4.six
   have l5 := (S4.fst (List.mem_cons_self ..)).2
   have KK := Lib.hid (And.intro k5 m5)
   have HRUN := Lib.hid hrun
   have S1 := Lib.hid (S4.set5 (by intro p hp; simp at hp; rw [hp]; simp only; omega) (.slice qa ma ca))
   clear hE r3 o3 hv SC SG hrun k5 m5 S4 hnl2 hkl2
   clear hHeld
   refine hK.out _ _ (z5) (fun hHeld => ?_)
   clear hK K
   try simp only [Act.put, pzz]
   refine wpAnyG_ready (rs := [4]) (by kernel_rfl) (by simp) ?_
   refine AllReadyG.held rfl (fun K hK => ?_) AllReadyG.nil
   go_simp
   clear hHeld
   refine hK.out _ _ ?_ (fun hHeld => ?_)
   focus (
    (try dsimp only)
    go_keep)
   clear hK K
   try simp only [Act.put, pzz]
   refine wpAnyG_ready (rs := [5]) (by kernel_rfl) (by simp) ?_
   refine AllReadyG.free rfl (by kernel_rfl) (fun K hK => ?_) AllReadyG.nil
   clear z5 y5
   refine step_append_runs rfl _ _ 26 rfl _ _ _ _ rfl rfl HRUN.out ?_
   clear HRUN
   clear hHeld
   refine hK.out _ _ ?_
   clear hK K
   try simp only [Act.put, pzz]
   refine puG (i := 6) (v := ?_) ?_ (hS := fun h => absurd h (by decide))
   try simp only [Act.put, pzz]
   refine wpAnyG_ready (rs := [7]) (by kernel_rfl) (by simp) ?_
   refine AllReadyG.free rfl (by kernel_rfl) (fun K hK => ?_) AllReadyG.nil
   obtain ⟨k5, m5⟩ := KK.out
   go_simp
   clear k5 m5 KK l5
   refine hK.out _ _ ?_
   clear hK K
   try simp only [Act.put, pzz]
   refine wpAnyG_done (by kernel_rfl) ?_ _
   generalize W6.setCell ⟨w.heap.size + 1, 5, none⟩ (.slice qa ma ca) = W6b at *
   clear HX
   go_wp2_with fail
   refine (want_any W6b r q c z s1 tThen S1.out.rd).mono ?_
   intro e w7 hE
   cases hx : wantP z s1 tThen with
   | error y =>
    obtain ⟨rfl, o9⟩ := hE.no hx
    have HRE := Lib.hid (show res = .error y by rw [← SP.out, branchL_2 HX2.out hx]; rfl)
    clear hE hx
    go_wp2_with fail
    exact ⟨rfl, S1.out.giv HRE.out o9⟩
   | ok y =>
    obtain ⟨u, s2⟩ := y
    obtain ⟨v, rfl, hv, r9, o9⟩ := hE.yes hx
    have g2 := And.intro (want_gt hx).1 (want_gt hx).2.1
    have HXW := Lib.hid hx
    have S2 := Lib.hid (S1.out.call o9 r9)
    clear hE hx hv r9 o9 S1
    have ho2 : 1 ≤ s2.p ∧ 10 * (z.ws.length - s2.p) + 9 ≤ f := ⟨by omega, by omega⟩
    go_wp2_with fail
    obtain ⟨_, _, _, _, _, y5, _⟩ := S2.out.six
    have SC := Lib.hid S2.out.drew
    cases hx : openedR z (pz z f).st s2 with
    | error y =>
     have HRE := Lib.hid (show res = .error y by rw [← SP.out, branchL_3 HX2.out HXW.out hx]; rfl)
     have HX := Lib.hid hx
     clear hx S2
     refine wp_region_gate (S := fun w' => w'.cell? ⟨w.heap.size + 1, 5, none⟩ = some (.slice qa ma ca)) (g := 5) (by kernel_rfl) (y5) (fun hHeld => ?_)
     refine puG (i := 0) (v := ?_) ?_
     try simp only [Act.put, pzz]
     refine tkG (i := 1) (v := ?_) ?_
     try simp only [Act.put, pzz]
     refine puG (i := 2) (v := ?_) ?_
     try simp only [Act.put, pzz]
     refine wpAnyG_ready (rs := [3]) (by kernel_rfl) (by simp) ?_
     refine AllReadyG.held rfl (fun K hK => ?_) AllReadyG.nil
     go_simp
     refine (opened_any HC.out _ r q c z s2 SC.out.rd ho2.1 ho2.2).mono ?_
     intro e w3 hE
     obtain ⟨rfl, o3⟩ := hE.no HX.out
     exact ⟨rfl, SC.out.giv HRE.out o3⟩
    | ok y =>
     obtain ⟨xb, s3⟩ := y
     have g3 := And.intro (opened_ge (pz_adv z f).st _ _ _ hx).1 ((opened_ge (pz_adv z f).st _ _ _ hx).2.1 g2.2)
     have HX4 := Lib.hid hx
     have HX := Lib.hid hx
     clear hx S2
     refine wp_region_gate (S := fun w' => w'.cell? ⟨w.heap.size + 1, 5, none⟩ = some (.slice qa ma ca)) (g := 5) (by kernel_rfl) (y5) (fun hHeld => ?_)
     refine puG (i := 0) (v := ?_) ?_
     try simp only [Act.put, pzz]
     refine tkG (i := 1) (v := ?_) ?_
     try simp only [Act.put, pzz]
     refine puG (i := 2) (v := ?_) ?_
     try simp only [Act.put, pzz]
     refine wpAnyG_ready (rs := [3]) (by kernel_rfl) (by simp) ?_
     refine AllReadyG.held rfl (fun K hK => ?_) AllReadyG.nil
     go_simp
     refine (opened_any HC.out _ r q c z s2 SC.out.rd ho2.1 ho2.2).mono ?_
     intro e w8 hE
     obtain ⟨v2, rfl, hv, r3, o3⟩ := hE.yes HX.out
     obtain ⟨qn2, mn2, ql2, ml2, rfl⟩ := EncN.open hv
     have SG := SC.out.got o3 r3 hv
     obtain ⟨_, _, _, _, _, z5, _⟩ := SG.six
     obtain ⟨v', W9, hrun, S4⟩ := SG.push (x := xb) (List.mem_cons_self ..) (by rw [List.length_append]; simp; omega) 26
     obtain ⟨qb, mb, cb, rfl⟩ := S4.slice3
     obtain ⟨nl2, hnl2⟩ : ∃ n, xb.names.length = n := ⟨_, rfl⟩
     obtain ⟨kl2, hkl2⟩ : ∃ n, xb.kids.length = n := ⟨_, rfl⟩
     rw [hnl2, hkl2] at hrun ⊢
     obtain ⟨_, _, _, _, _, k5, _, _, _, _, _, m5⟩ := S4.six
     have l5 := (S4.fst (List.mem_cons_self ..)).2
     have KK := Lib.hid (And.intro k5 m5)
     have HRUN := Lib.hid hrun
     have S3 := Lib.hid (S4.set5 (by intro p hp; simp at hp; rw [hp]; simp only; omega) (.slice qb mb cb))
     clear hE r3 o3 hv SC SG hrun k5 m5 S4 hnl2 hkl2
     clear hHeld
     refine hK.out _ _ (z5) (fun hHeld => ?_)
     clear hK K
     try simp only [Act.put, pzz]
     refine wpAnyG_ready (rs := [4]) (by kernel_rfl) (by simp) ?_
     refine AllReadyG.held rfl (fun K hK => ?_) AllReadyG.nil
     go_simp
     clear hHeld
     refine hK.out _ _ ?_ (fun hHeld => ?_)
     focus (
      (try dsimp only)
      go_keep)
     clear hK K
     try simp only [Act.put, pzz]
     refine wpAnyG_ready (rs := [5]) (by kernel_rfl) (by simp) ?_
     refine AllReadyG.free rfl (by kernel_rfl) (fun K hK => ?_) AllReadyG.nil
     clear z5 y5
     refine step_append_runs rfl _ _ 26 rfl _ _ _ _ rfl rfl HRUN.out ?_
     clear HRUN
     clear hHeld
     refine hK.out _ _ ?_
     clear hK K
     try simp only [Act.put, pzz]
     refine puG (i := 6) (v := ?_) ?_ (hS := fun h => absurd h (by decide))
     try simp only [Act.put, pzz]
     refine wpAnyG_ready (rs := [7]) (by kernel_rfl) (by simp) ?_
     refine AllReadyG.free rfl (by kernel_rfl) (fun K hK => ?_) AllReadyG.nil
     obtain ⟨k5, m5⟩ := KK.out
     go_simp
     clear k5 m5 KK l5
     refine hK.out _ _ ?_
     clear hK K
     try simp only [Act.put, pzz]
     refine wpAnyG_done (by kernel_rfl) ?_ _
     generalize W9.setCell ⟨w.heap.size + 1, 5, none⟩ (.slice qb mb cb) = W9b at *
     clear HX
     have HB := Lib.hid (branchL_4 (k := k) (acc := acc) HX2.out HXW.out HX4.out)
     clear HX2 HXW HX4
     go_wp2_with fail
     have cT := take_any W9b r q c z s3 tElseif S3.out.rd
     cases hb : isW z s3.p tElseif with
     | true =>
      rw [hb, skipP_yes hb] at cT
      have hlt := isW_lt hb
      have HR2 := Lib.hid (show chFin z (pz z f) (branchL z (pz z f) k ⟨s3.p + 1, s3.o⟩ (acc ++ [xa] ++ [xb])) = res by rw [← SP.out, HB.out, if_pos hb])
      clear hb
      refine cT.mono ?_
      rintro e w10 ⟨rfl, r10, o10⟩
      have S4 := Lib.hid ((S3.out.call o10 r10).sub (N' := []) (fun p hp => by cases hp))
      have hnx2 := S4.out.nxt
      clear r10 o10 cT S3
      go_wp2_with fail
      go_roundw
      case rel => exact ⟨k, ⟨s3.p + 1, s3.o⟩, _, _, S4, HR2, by simp only; omega, by simp only [List.length_append, List.length_singleton]; omega, by simp only; omega⟩
      case measure => rw [hnx, hnx2]; omega
     | false =>
      rw [hb, skipP_no hb] at cT
      have HR2 := Lib.hid (show chFin z (pz z f) (.ok (acc ++ [xa] ++ [xb], s3)) = res by rw [← SP.out, HB.out, if_neg (by rw [hb]; decide)])
      clear hb
      refine cT.mono ?_
      rintro e w10 ⟨rfl, r10, o10⟩
      have S4 := Lib.hid (S3.out.call o10 r10)
      clear r10 o10 cT S3 SP HB
      go_wp2_with fail
      have cT := take_any w10 r q c z s3 tElse S4.out.rd
      obtain ⟨lt, hlt⟩ : ∃ lt, acc ++ [xa] ++ [xb] = lt := ⟨_, rfl⟩
      have hltl : lt.length ≤ s'.p + 2 := by rw [← hlt]; simp only [List.length_append, List.length_singleton]; omega
      rw [hlt] at S4 HR2
      clear hlt
      cases hb : isW z s3.p tElse with
      | false =>
       rw [hb, skipP_no hb] at cT
       have HR3 := Lib.hid (show (match wantP z s3 tEnd with | .error e => .error e | .ok (_, s3) => .ok (ndK 4 lt, s3)) = res by rw [← HR2.out]; unfold chFin; simp only; rw [if_neg (by rw [hb]; decide)])
       clear hb HR2
       refine cT.mono ?_
       rintro e w11 ⟨rfl, r11, o11⟩
       have S5 := Lib.hid (S4.out.call o11 r11)
       clear r11 o11 cT S4
       go_wp2_with fail
       refine (want_any w11 r q c z s3 tEnd S5.out.rd).mono ?_
       intro e w12 hE
       cases hx : wantP z s3 tEnd with
       | error y =>
        obtain ⟨rfl, o9⟩ := hE.no hx
        have HRE := Lib.hid (show res = .error y by rw [← HR3.out, hx])
        clear hE hx
        go_wp2_with fail
        exact ⟨rfl, S5.out.giv HRE.out o9⟩
       | ok y =>
        obtain ⟨u, s4⟩ := y
        obtain ⟨v, rfl, hv, r9, o9⟩ := hE.yes hx
        have g4 := And.intro (want_gt hx).1 (want_gt hx).2.1
        have HR4 := Lib.hid (show res = .ok (ndK 4 lt, s4) by rw [← HR3.out, hx])
        have S6 := Lib.hid (S5.out.call o9 r9)
        clear hE hx hv r9 o9 S5 HR3
        obtain ⟨c0, c1, c2, c3, c4, c5, _⟩ := S6.out.six
        obtain ⟨_, _, _, _, _, _, f0, f1, f2, f3, f4, f5⟩ := S6.out.swap.six
        have hltX := (S6.out.fst (b := w.heap.size) (o := ndZ) (by simp)).2
        go_wp2_with fail
        exact bodyPost_ret (v := ndV (ndK 4 (lt)) (.slice none 0 0) (.slice qb mb cb)) (by simp [results, Tryz.results177, go_sem, *, ndK_k, ndK_name, ndK_text, ndK_n]) rfl (S6.out.swap.fin (by intro p hp; simp at hp; rw [hp]; simp only; omega) (x := ndK 4 (lt)) _ _ HR4.out fun W' hW' => PtAt.mk _ _ 4 0 _ _ (PtAt.tx0 _ _) hW'.kidsd)
      | true =>
       rw [hb, skipP_yes hb] at cT
       have hlte := isW_lt hb
       have HR3 := Lib.hid (show (match openedR z (pz z f).st ⟨s3.p + 1, s3.o⟩ with
          | .error e => .error e
          | .ok (b, s2) => match wantP z s2 tEnd with | .error e => .error e | .ok (_, s3) => .ok (ndK 4 (lt ++ [b]), s3)) = res by rw [← HR2.out]; unfold chFin; simp only; rw [if_pos hb])
       clear hb HR2
       refine cT.mono ?_
       rintro e w11 ⟨rfl, r11, o11⟩
       have S5 := Lib.hid (S4.out.call o11 r11)
       clear r11 o11 cT S4
       have ho3 : 1 ≤ s3.p + 1 ∧ 10 * (z.ws.length - (s3.p + 1)) + 9 ≤ f := ⟨by omega, by omega⟩
       go_wp2_with fail
       obtain ⟨_, _, _, _, _, y5, _⟩ := S5.out.six
       have SC := Lib.hid S5.out.drew
       cases hx : openedR z (pz z f).st ⟨s3.p + 1, s3.o⟩ with
       | error y =>
        have HRE := Lib.hid (show res = .error y by rw [← HR3.out, hx])
        have HX := Lib.hid hx
        clear hx S5
        refine wp_region_gate (S := fun w' => w'.cell? ⟨w.heap.size + 1, 5, none⟩ = some (.slice qb mb cb)) (g := 5) (by kernel_rfl) (y5) (fun hHeld => ?_)
        refine puG (i := 0) (v := ?_) ?_
        try simp only [Act.put, pzz]
        refine tkG (i := 1) (v := ?_) ?_
        try simp only [Act.put, pzz]
        refine puG (i := 2) (v := ?_) ?_
        try simp only [Act.put, pzz]
        refine wpAnyG_ready (rs := [3]) (by kernel_rfl) (by simp) ?_
        refine AllReadyG.held rfl (fun K hK => ?_) AllReadyG.nil
        go_simp
        refine (opened_any HC.out _ r q c z ⟨s3.p + 1, s3.o⟩ SC.out.rd ho3.1 ho3.2).mono ?_
        intro e w3 hE
        obtain ⟨rfl, o3⟩ := hE.no HX.out
        exact ⟨rfl, SC.out.giv HRE.out o3⟩
       | ok y =>
        obtain ⟨xe, s4⟩ := y
        have g5 := (opened_ge (pz_adv z f).st _ _ _ hx).1
        have HR4 := Lib.hid (show (match wantP z s4 tEnd with | .error e => .error e | .ok (_, s3) => .ok (ndK 4 (lt ++ [xe]), s3)) = res by rw [← HR3.out, hx]; first | done | rfl)
        have HX7 := Lib.hid hx
        have HX := Lib.hid hx
        clear hx S5
        refine wp_region_gate (S := fun w' => w'.cell? ⟨w.heap.size + 1, 5, none⟩ = some (.slice qb mb cb)) (g := 5) (by kernel_rfl) (y5) (fun hHeld => ?_)
        refine puG (i := 0) (v := ?_) ?_
        try simp only [Act.put, pzz]
        refine tkG (i := 1) (v := ?_) ?_
        try simp only [Act.put, pzz]
        refine puG (i := 2) (v := ?_) ?_
        try simp only [Act.put, pzz]
        refine wpAnyG_ready (rs := [3]) (by kernel_rfl) (by simp) ?_
        refine AllReadyG.held rfl (fun K hK => ?_) AllReadyG.nil
        go_simp
        refine (opened_any HC.out _ r q c z ⟨s3.p + 1, s3.o⟩ SC.out.rd ho3.1 ho3.2).mono ?_
        intro e w12 hE
        obtain ⟨v2, rfl, hv, r3, o3⟩ := hE.yes HX.out
        obtain ⟨qn2, mn2, ql2, ml2, rfl⟩ := EncN.open hv
        have SG := SC.out.got o3 r3 hv
        obtain ⟨_, _, _, _, _, z5, _⟩ := SG.six
        obtain ⟨v', W13, hrun, S4⟩ := SG.push (x := xe) (List.mem_cons_self ..) (by omega) 26
        obtain ⟨qe, me, ce, rfl⟩ := S4.slice3
        obtain ⟨nl2, hnl2⟩ : ∃ n, xe.names.length = n := ⟨_, rfl⟩
        obtain ⟨kl2, hkl2⟩ : ∃ n, xe.kids.length = n := ⟨_, rfl⟩
        rw [hnl2, hkl2] at hrun ⊢
        obtain ⟨_, _, _, _, _, k5, _, _, _, _, _, m5⟩ := S4.six
        have l5 := (S4.fst (List.mem_cons_self ..)).2
        have KK := Lib.hid (And.intro k5 m5)
        have HRUN := Lib.hid hrun
        have S6 := Lib.hid (S4.set5 (by intro p hp; simp at hp; rw [hp]; simp only; omega) (.slice qe me ce))
        clear hE r3 o3 hv SC SG hrun k5 m5 S4 hnl2 hkl2
        clear hHeld
        refine hK.out _ _ (z5) (fun hHeld => ?_)
        clear hK K
        try simp only [Act.put, pzz]
        refine wpAnyG_ready (rs := [4]) (by kernel_rfl) (by simp) ?_
        refine AllReadyG.held rfl (fun K hK => ?_) AllReadyG.nil
        go_simp
        clear hHeld
        refine hK.out _ _ ?_ (fun hHeld => ?_)
        focus (
         (try dsimp only)
         go_keep)
        clear hK K
        try simp only [Act.put, pzz]
        refine wpAnyG_ready (rs := [5]) (by kernel_rfl) (by simp) ?_
        refine AllReadyG.free rfl (by kernel_rfl) (fun K hK => ?_) AllReadyG.nil
        clear z5 y5
        refine step_append_runs rfl _ _ 26 rfl _ _ _ _ rfl rfl HRUN.out ?_
        clear HRUN
        clear hHeld
        refine hK.out _ _ ?_
        clear hK K
        try simp only [Act.put, pzz]
        refine puG (i := 6) (v := ?_) ?_ (hS := fun h => absurd h (by decide))
        try simp only [Act.put, pzz]
        refine wpAnyG_ready (rs := [7]) (by kernel_rfl) (by simp) ?_
        refine AllReadyG.free rfl (by kernel_rfl) (fun K hK => ?_) AllReadyG.nil
        obtain ⟨k5, m5⟩ := KK.out
        go_simp
        clear k5 m5 KK l5
        refine hK.out _ _ ?_
        clear hK K
        try simp only [Act.put, pzz]
        refine wpAnyG_done (by kernel_rfl) ?_ _
        generalize W13.setCell ⟨w.heap.size + 1, 5, none⟩ (.slice qe me ce) = W13b at *
        clear HX
        go_wp2_with fail
        refine (want_any W13b r q c z s4 tEnd S6.out.rd).mono ?_
        intro e w14 hE
        cases hx : wantP z s4 tEnd with
        | error y =>
         obtain ⟨rfl, o9⟩ := hE.no hx
         have HRE := Lib.hid (show res = .error y by rw [← HR4.out, hx])
         clear hE hx
         go_wp2_with fail
         exact ⟨rfl, S6.out.giv HRE.out o9⟩
        | ok y =>
         obtain ⟨u, s5⟩ := y
         obtain ⟨v, rfl, hv, r9, o9⟩ := hE.yes hx
         have g6 := And.intro (want_gt hx).1 (want_gt hx).2.1
         have HR5 := Lib.hid (show res = .ok (ndK 4 (lt ++ [xe]), s5) by rw [← HR4.out, hx])
         have S7 := Lib.hid (S6.out.call o9 r9)
         clear hE hx hv r9 o9 S6 HR4
         obtain ⟨c0, c1, c2, c3, c4, c5, _⟩ := S7.out.six
         obtain ⟨_, _, _, _, _, _, f0, f1, f2, f3, f4, f5⟩ := S7.out.swap.six
         have hltX := (S7.out.fst (b := w.heap.size) (o := ndZ) (by simp)).2
         go_wp2_with fail
         exact bodyPost_ret (v := ndV (ndK 4 (lt ++ [xe])) (.slice none 0 0) (.slice qe me ce)) (by simp [results, Tryz.results177, go_sem, *, ndK_k, ndK_name, ndK_text, ndK_n]) rfl (S7.out.swap.fin (by intro p hp; simp at hp; rw [hp]; simp only; omega) (x := ndK 4 (lt ++ [xe])) _ _ HR5.out fun W' hW' => PtAt.mk _ _ 4 0 _ _ (PtAt.tx0 _ _) hW'.kidsd)
end Go.Proofs.YtkbcnacjaakleaaGreatDoor
