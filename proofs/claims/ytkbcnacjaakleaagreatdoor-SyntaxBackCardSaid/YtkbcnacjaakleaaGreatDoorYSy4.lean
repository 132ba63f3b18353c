/- statement. -/
import Derived.Test.YtkbcnacjaakleaaGreatDoorYSy3
set_option maxRecDepth 100000
set_option maxHeartbeats 32000000
set_option linter.unusedVariables false
set_option linter.unusedSimpArgs false
namespace Go.Proofs.YtkbcnacjaakleaaGreatDoor
open Go.RowKit

theorem statement_any {f : Nat} (hC : Con f) (w : World) (r : Nat) (q : Option Addr) (c : Nat) (z : Wz) (s : Ps) (h : RdAt w r q c z s) (hf : 10 * (z.ws.length - s.p) + 9 ≤ f + 1) :
  Calls Tryz.prog 91 #[.pointer (some ⟨r, 0, none⟩)] w (RdR (EncN w) w r q c z (stmtR z (pz z f) s)) := by
 obtain ⟨res, hres⟩ : ∃ res, stmtR z (pz z f) s = res := ⟨_, rfl⟩
 rw [hres]
 have HC := Lib.hid hC
 have H0 := Lib.hid ((St.start h).newK ndZ)
 have hle := h.le
 have hlen := h.len
 have hop := h.op
 have hlow := h.lt
 unfold stmtR at hres
 have HR := Lib.hid hres
 clear hres h hC
 go_enter Tryz.func91, Tryz.ntmps91
 go_wp2_with fail
 have cT := take_any (w.alloc ndZ) r q c z s tLocal H0.out.rd
 cases hb : isW z s.p tLocal with
 | true =>
  rw [hb, skipP_yes hb] at cT
  have hltp := isW_lt hb
  have HR1 := Lib.hid (show localR z (pz z f) ⟨s.p + 1, s.o⟩ = res by rw [← HR.out, if_pos hb]; first | done | rfl)
  clear hb
  refine cT.mono ?_
  rintro e w1 ⟨rfl, r1, o1⟩
  have S1 := Lib.hid (H0.out.call o1 r1)
  clear r1 o1 cT H0
  go_wp2_with fail
  refine (local_any HC.out _ r q c z ⟨s.p + 1, s.o⟩ S1.out.rd (by simp only; omega)).mono ?_
  intro e w2 hE
  cases hx : localR z (pz z f) ⟨s.p + 1, s.o⟩ with
  | error y =>
   obtain ⟨rfl, o9⟩ := hE.no hx
   have HRE := Lib.hid (show res = .error y by rw [← HR1.out, hx]; first | done | rfl)
   clear hE hx
   go_wp2_with fail
   exact ⟨rfl, S1.out.giv HRE.out o9⟩
  | ok y =>
   obtain ⟨x, s1⟩ := y
   obtain ⟨v, rfl, hv, r2, o2⟩ := hE.yes hx
   obtain ⟨qn, mn, ql, ml, rfl⟩ := EncN.open hv
   have HR2 := Lib.hid (show res = .ok (x, s1) by rw [← HR1.out, hx]; first | done | rfl)
   obtain ⟨nl, hnl⟩ : ∃ n, x.names.length = n := ⟨_, rfl⟩
   obtain ⟨kl, hkl⟩ : ∃ n, x.kids.length = n := ⟨_, rfl⟩
   rw [hnl, hkl] at hv ⊢
   have S2 := Lib.hid (S1.out.got o2 r2 hv)
   clear hE hx r2 o2 hv hnl hkl S1 HR1
   obtain ⟨_, _, _, _, _, _, f0, f1, f2, f3, f4, f5⟩ := S2.out.six
   have hltX := (S2.out.fst (List.mem_cons_self ..)).2
   go_wp2_with fail
   exact bodyPost_ret (v := ndV (x) (.slice qn nl mn) (.slice ql kl ml)) (by simp [results, Tryz.results91, go_sem, *]) rfl (S2.out.fin (by intro p hp; cases hp) (x := x) _ _ HR2.out fun W' hW' => hW'.pt (List.mem_cons_self ..))
 | false =>
  rw [hb, skipP_no hb] at cT
  have HN0 := Lib.hid hb
  clear hb
  refine cT.mono ?_
  rintro e wt0 ⟨rfl, r1, o1⟩
  have T0 := Lib.hid (H0.out.call o1 r1)
  clear r1 o1 cT H0
  go_wp2_with fail
  have cT := take_any wt0 r q c z s tDo T0.out.rd
  cases hb : isW z s.p tDo with
  | true =>
   rw [hb, skipP_yes hb] at cT
   have hltp := isW_lt hb
   have HR1 := Lib.hid (show (match endedR z (pz z f).st ⟨s.p + 1, s.o⟩ with | .error e => .error e | .ok (b, s1) => .ok (ndK 3 [b], s1)) = res by rw [← HR.out, if_neg (by rw [HN0.out]; decide), if_pos hb]; first | done | rfl)
   clear hb
   refine cT.mono ?_
   rintro e w1 ⟨rfl, r1, o1⟩
   have S1 := Lib.hid (T0.out.call o1 r1)
   clear r1 o1 cT T0
   go_wp2_with fail
   refine (ended_any HC.out _ r q c z ⟨s.p + 1, s.o⟩ S1.out.rd (by simp only; omega) (by simp only; omega)).mono ?_
   intro e w2 hE
   cases hx : endedR z (pz z f).st ⟨s.p + 1, s.o⟩ with
   | error y =>
    obtain ⟨rfl, o9⟩ := hE.no hx
    have HRE := Lib.hid (show res = .error y by rw [← HR1.out, hx]; first | done | rfl)
    clear hE hx
    go_wp2_with fail
    exact ⟨rfl, S1.out.giv HRE.out o9⟩
   | ok y =>
    obtain ⟨x, s1⟩ := y
    obtain ⟨v, rfl, hv, r2, o2⟩ := hE.yes hx
    obtain ⟨qn, mn, ql, ml, rfl⟩ := EncN.open hv
    have HR2 := Lib.hid (show res = .ok (ndK 3 [x], s1) by rw [← HR1.out, hx]; first | done | rfl)
    have S20 := (S1.out.got o2 r2 hv).one (x := x) (List.mem_cons_self ..)
    obtain ⟨nl, hnl⟩ : ∃ n, x.names.length = n := ⟨_, rfl⟩
    obtain ⟨kl, hkl⟩ : ∃ n, x.kids.length = n := ⟨_, rfl⟩
    rw [hnl, hkl] at S20 ⊢
    have S2 := Lib.hid S20
    obtain ⟨_, _, _, _, _, _, f0, f1, f2, f3, f4, f5⟩ := S20.six
    have hltX := (S20.fst (List.mem_cons_self ..)).2
    clear hE hx r2 o2 hv hnl hkl S1 HR1 S20
    go_wp2_with fail
    exact bodyPost_ret (v := ndV (ndK 3 [x]) (.slice none 0 0) (.slice (some ⟨w2.heap.size, 0, none⟩) 1 1)) (by simp [results, Tryz.results91, go_sem, *, ndK_k, ndK_name, ndK_text, ndK_n]) rfl (S2.out.fin (by intro p hp; cases hp) (x := ndK 3 [x]) _ _ HR2.out fun W' hW' => PtAt.mk _ _ 3 0 _ _ (PtAt.tx0 _ _) (hW'.pt (List.mem_cons_self ..)))
  | false =>
   rw [hb, skipP_no hb] at cT
   have HN1 := Lib.hid hb
   clear hb
   refine cT.mono ?_
   rintro e wt1 ⟨rfl, r1, o1⟩
   have T1 := Lib.hid (T0.out.call o1 r1)
   clear r1 o1 cT T0
   go_wp2_with fail
   have cT := take_any wt1 r q c z s tIf T1.out.rd
   cases hb : isW z s.p tIf with
   | true =>
    rw [hb, skipP_yes hb] at cT
    have hltp := isW_lt hb
    have HR1 := Lib.hid (show choiceR z (pz z f) ⟨s.p + 1, s.o⟩ = res by rw [← HR.out, if_neg (by rw [HN0.out]; decide), if_neg (by rw [HN1.out]; decide), if_pos hb]; first | done | rfl)
    clear hb
    refine cT.mono ?_
    rintro e w1 ⟨rfl, r1, o1⟩
    have S1 := Lib.hid (T1.out.call o1 r1)
    clear r1 o1 cT T1
    go_wp2_with fail
    refine (choice_any HC.out _ r q c z ⟨s.p + 1, s.o⟩ S1.out.rd (by simp only; omega)).mono ?_
    intro e w2 hE
    cases hx : choiceR z (pz z f) ⟨s.p + 1, s.o⟩ with
    | error y =>
     obtain ⟨rfl, o9⟩ := hE.no hx
     have HRE := Lib.hid (show res = .error y by rw [← HR1.out, hx]; first | done | rfl)
     clear hE hx
     go_wp2_with fail
     exact ⟨rfl, S1.out.giv HRE.out o9⟩
    | ok y =>
     obtain ⟨x, s1⟩ := y
     obtain ⟨v, rfl, hv, r2, o2⟩ := hE.yes hx
     obtain ⟨qn, mn, ql, ml, rfl⟩ := EncN.open hv
     have HR2 := Lib.hid (show res = .ok (x, s1) by rw [← HR1.out, hx]; first | done | rfl)
     obtain ⟨nl, hnl⟩ : ∃ n, x.names.length = n := ⟨_, rfl⟩
     obtain ⟨kl, hkl⟩ : ∃ n, x.kids.length = n := ⟨_, rfl⟩
     rw [hnl, hkl] at hv ⊢
     have S2 := Lib.hid (S1.out.got o2 r2 hv)
     clear hE hx r2 o2 hv hnl hkl S1 HR1
     obtain ⟨_, _, _, _, _, _, f0, f1, f2, f3, f4, f5⟩ := S2.out.six
     have hltX := (S2.out.fst (List.mem_cons_self ..)).2
     go_wp2_with fail
     exact bodyPost_ret (v := ndV (x) (.slice qn nl mn) (.slice ql kl ml)) (by simp [results, Tryz.results91, go_sem, *]) rfl (S2.out.fin (by intro p hp; cases hp) (x := x) _ _ HR2.out fun W' hW' => hW'.pt (List.mem_cons_self ..))
   | false =>
    rw [hb, skipP_no hb] at cT
    have HN2 := Lib.hid hb
    clear hb
    refine cT.mono ?_
    rintro e wt2 ⟨rfl, r1, o1⟩
    have T2 := Lib.hid (T1.out.call o1 r1)
    clear r1 o1 cT T1
    go_wp2_with fail
    have cT := take_any wt2 r q c z s tWhile T2.out.rd
    cases hb : isW z s.p tWhile with
    | true =>
     rw [hb, skipP_yes hb] at cT
     have hltp := isW_lt hb
     have HR1 := Lib.hid (show whileR z (pz z f) ⟨s.p + 1, s.o⟩ = res by rw [← HR.out, if_neg (by rw [HN0.out]; decide), if_neg (by rw [HN1.out]; decide), if_neg (by rw [HN2.out]; decide), if_pos hb]; first | done | rfl)
     clear hb
     refine cT.mono ?_
     rintro e w1 ⟨rfl, r1, o1⟩
     have S1 := Lib.hid (T2.out.call o1 r1)
     clear r1 o1 cT T2
     go_wp2_with fail
     refine (HC.out.ex0 _ r q c z ⟨s.p + 1, s.o⟩ S1.out.rd (by simp only; omega)).mono ?_
     intro e w2 hE
     have HR1 := Lib.hid (show whileR z (pz z f) ⟨s.p + 1, s.o⟩ = res from HR1.out)
     unfold whileR at HR1
     cases hx : (pz z f).ex 0 ⟨s.p + 1, s.o⟩ with
     | error y =>
      obtain ⟨rfl, o9⟩ := hE.no hx
      have HRE := Lib.hid (show res = .error y by rw [← HR1.out, hx]; first | done | rfl)
      clear hE hx
      go_wp2_with fail
      exact ⟨rfl, S1.out.giv HRE.out o9⟩
     | ok y =>
      obtain ⟨x, s1⟩ := y
      obtain ⟨v, rfl, hv, r2, o2⟩ := hE.yes hx
      obtain ⟨qn, mn, ql, ml, rfl⟩ := EncN.open hv
      have g1 := And.intro (pz_ex_gt hx).1 (pz_ex_gt hx).2.1
      simp only at g1
      have HR2 := Lib.hid (show (match wantP z s1 tDo with
       | .error e => .error e
       | .ok (_, s2) => match endedR z (pz z f).st s2 with | .error e => .error e | .ok (b, s3) => .ok (ndK 5 [x, b], s3)) = res by rw [← HR1.out, hx]; first | done | rfl)
      have hws : w.heap.size < w2.heap.size := by have := o2.le; have := (S1.out.fst (List.mem_cons_self ..)).2; omega
      have S20 := ((S1.out.got o2 r2 hv).kone (x := x) (List.mem_cons_self ..)).newK (ndBx (.int .i64 5) (.string ⟨#[]⟩) (.string ⟨#[]⟩) (.int .i64 0) (.slice none 0 0) (.slice (some ⟨w2.heap.size, 0, none⟩) 1 1))
      rw [size_alloc] at S20
      obtain ⟨nl, hnl⟩ : ∃ n, x.names.length = n := ⟨_, rfl⟩
      obtain ⟨kl, hkl⟩ : ∃ n, x.kids.length = n := ⟨_, rfl⟩
      rw [hnl, hkl] at S20 ⊢
      have S2 := Lib.hid S20
      clear hE hx r2 o2 hv hnl hkl S1 HR1 S20
      go_upto_region 9 with (fail)
      generalize (w2.alloc (.cells #[.int .i64 x.k, .string x.name, .string x.text, .int .i64 x.n, .slice qn nl mn, .slice ql kl ml] 28)).alloc (.cells #[.int .i64 5, .string ⟨#[]⟩, .string ⟨#[]⟩, .int .i64 0, .slice none 0 0, .slice (some ⟨w2.heap.size, 0, none⟩) 1 1] 28) = W3 at *
      go_wp2_with fail
      refine (want_any W3 r q c z s1 tDo S2.out.rd).mono ?_
      intro e w4 hE
      cases hx : wantP z s1 tDo with
      | error y =>
       obtain ⟨rfl, o9⟩ := hE.no hx
       have HRE := Lib.hid (show res = .error y by rw [← HR2.out, hx]; first | done | rfl)
       clear hE hx
       go_wp2_with fail
       exact ⟨rfl, S2.out.giv HRE.out o9⟩
      | ok y =>
       obtain ⟨u, s2⟩ := y
       obtain ⟨v, rfl, hv, r9, o9⟩ := hE.yes hx
       have g2 := And.intro (want_gt hx).1 (want_gt hx).2.1
       have HR3 := Lib.hid (show (match endedR z (pz z f).st s2 with | .error e => .error e | .ok (b, s3) => .ok (ndK 5 [x, b], s3)) = res by rw [← HR2.out, hx]; first | done | rfl)
       have S3 := Lib.hid (S2.out.call o9 r9)
       clear hE hx hv r9 o9 S2 HR2
       go_wp2_with fail
       obtain ⟨_, _, _, _, _, y5, _⟩ := S3.out.six
       have SC := Lib.hid S3.out.drew
       have hse : 1 ≤ s2.p ∧ 10 * (z.ws.length - s2.p) + 9 ≤ f := ⟨by omega, by omega⟩
       cases hx : endedR z (pz z f).st s2 with
       | error y =>
        have HRE := Lib.hid (show res = .error y by rw [← HR3.out, hx]; first | done | rfl)
        have HX := Lib.hid hx
        clear hx S3
        refine wp_region_gate (S := fun w' => w'.cell? ⟨w2.heap.size + 1, 5, none⟩ = some (.slice (some ⟨w2.heap.size, 0, none⟩) 1 1)) (g := 5) (by kernel_rfl) (y5) (fun hHeld => ?_)
        refine puG (i := 0) (v := ?_) ?_
        try simp only [Act.put, pzz]
        refine tkG (i := 1) (v := ?_) ?_
        try simp only [Act.put, pzz]
        refine puG (i := 2) (v := ?_) ?_
        try simp only [Act.put, pzz]
        refine wpAnyG_ready (rs := [3]) (by kernel_rfl) (by simp) ?_
        refine AllReadyG.held rfl (fun K hK => ?_) AllReadyG.nil
        go_simp
        refine (ended_any HC.out _ r q c z s2 SC.out.rd hse.1 hse.2).mono ?_
        intro e w3 hE
        obtain ⟨rfl, o3⟩ := hE.no HX.out
        exact ⟨rfl, SC.out.giv HRE.out o3⟩
       | ok y =>
        obtain ⟨xe, se⟩ := y
        have HRF := Lib.hid (show res = .ok (ndK 5 ([x] ++ [xe]), se) by rw [← HR3.out, hx]; first | done | rfl)
        have HX := Lib.hid hx
        clear hx S3 HR3
        refine wp_region_gate (S := fun w' => w'.cell? ⟨w2.heap.size + 1, 5, none⟩ = some (.slice (some ⟨w2.heap.size, 0, none⟩) 1 1)) (g := 5) (by kernel_rfl) (y5) (fun hHeld => ?_)
        refine puG (i := 0) (v := ?_) ?_
        try simp only [Act.put, pzz]
        refine tkG (i := 1) (v := ?_) ?_
        try simp only [Act.put, pzz]
        refine puG (i := 2) (v := ?_) ?_
        try simp only [Act.put, pzz]
        refine wpAnyG_ready (rs := [3]) (by kernel_rfl) (by simp) ?_
        refine AllReadyG.held rfl (fun K hK => ?_) AllReadyG.nil
        go_simp
        refine (ended_any HC.out _ r q c z s2 SC.out.rd hse.1 hse.2).mono ?_
        intro e we hE
        obtain ⟨v2, rfl, hv, r3, o3⟩ := hE.yes HX.out
        obtain ⟨qn2, mn2, ql2, ml2, rfl⟩ := EncN.open hv
        have SG := SC.out.got o3 r3 hv
        obtain ⟨_, _, _, _, _, z5, _⟩ := SG.six
        obtain ⟨v', W20, hrun, S4⟩ := SG.push (x := xe) (List.mem_cons_self ..) (by simp) 26
        obtain ⟨qe, me, ce, rfl⟩ := S4.slice3
        obtain ⟨nl2, hnl2⟩ : ∃ n, xe.names.length = n := ⟨_, rfl⟩
        obtain ⟨kl2, hkl2⟩ : ∃ n, xe.kids.length = n := ⟨_, rfl⟩
        rw [hnl2, hkl2] at hrun ⊢
        obtain ⟨_, _, _, _, _, k5, _, _, _, _, _, m5⟩ := S4.six
        have l5 := (S4.fst (List.mem_cons_self ..)).2
        have KK := Lib.hid (And.intro k5 m5)
        have HRUN := Lib.hid hrun
        have SE := Lib.hid (S4.set5 (by intro p hp; simp at hp; rw [hp]; simp only; omega) (.slice qe me ce))
        clear hE r3 o3 hv SC SG hrun k5 m5 S4 hnl2 hkl2
        clear hHeld
        refine hK.out _ _ (z5) (fun hHeld => ?_)
        clear hK K
        try simp only [Act.put, pzz]
        refine wpAnyG_ready (rs := [4]) (by kernel_rfl) (by simp) ?_
        refine AllReadyG.held rfl (fun K hK => ?_) AllReadyG.nil
        go_simp
        clear hHeld
        refine hK.out _ _ ?_ (fun hHeld => ?_)
        focus (
         (try dsimp only)
         go_keep)
        clear hK K
        try simp only [Act.put, pzz]
        refine wpAnyG_ready (rs := [5]) (by kernel_rfl) (by simp) ?_
        refine AllReadyG.free rfl (by kernel_rfl) (fun K hK => ?_) AllReadyG.nil
        clear z5 y5
        refine step_append_runs rfl _ _ 26 rfl _ _ _ _ rfl rfl HRUN.out ?_
        clear HRUN
        clear hHeld
        refine hK.out _ _ ?_
        clear hK K
        try simp only [Act.put, pzz]
        refine puG (i := 6) (v := ?_) ?_ (hS := fun h => absurd h (by decide))
        try simp only [Act.put, pzz]
        refine wpAnyG_ready (rs := [7]) (by kernel_rfl) (by simp) ?_
        refine AllReadyG.free rfl (by kernel_rfl) (fun K hK => ?_) AllReadyG.nil
        obtain ⟨k5, m5⟩ := KK.out
        go_simp
        clear k5 m5 KK l5
        refine hK.out _ _ ?_
        clear hK K
        try simp only [Act.put, pzz]
        refine wpAnyG_done (by kernel_rfl) ?_ _
        generalize W20.setCell ⟨w2.heap.size + 1, 5, none⟩ (.slice qe me ce) = WX at *
        obtain ⟨c0, c1, c2, c3, c4, c5, _⟩ := SE.out.six
        obtain ⟨_, _, _, _, _, _, f0, f1, f2, f3, f4, f5⟩ := SE.out.swap.six
        have hltX := (SE.out.fst (b := w.heap.size) (o := ndZ) (by simp)).2
        go_wp2_with fail
        exact bodyPost_ret (v := ndV (ndK 5 ([x] ++ [xe])) (.slice none 0 0) (.slice qe me ce)) (by simp [results, Tryz.results91, go_sem, *, ndK_k, ndK_name, ndK_text, ndK_n]) rfl (SE.out.swap.fin (by intro p hp; simp at hp; rw [hp]; simp only; omega) (x := ndK 5 ([x] ++ [xe])) _ _ HRF.out fun W' hW' => PtAt.mk _ _ 5 0 _ _ (PtAt.tx0 _ _) hW'.kidsd)
    | false =>
     rw [hb, skipP_no hb] at cT
     have HN3 := Lib.hid hb
     clear hb
     refine cT.mono ?_
     rintro e wt3 ⟨rfl, r1, o1⟩
     have T3 := Lib.hid (T2.out.call o1 r1)
     clear r1 o1 cT T2
     go_wp2_with fail
     have cT := take_any wt3 r q c z s tFor T3.out.rd
     cases hb : isW z s.p tFor with
     | true =>
      rw [hb, skipP_yes hb] at cT
      have hltp := isW_lt hb
      have HR1 := Lib.hid (show loopR z (pz z f) ⟨s.p + 1, s.o⟩ = res by rw [← HR.out, if_neg (by rw [HN0.out]; decide), if_neg (by rw [HN1.out]; decide), if_neg (by rw [HN2.out]; decide), if_neg (by rw [HN3.out]; decide), if_pos hb]; first | done | rfl)
      clear hb
      refine cT.mono ?_
      rintro e w1 ⟨rfl, r1, o1⟩
      have S1 := Lib.hid (T3.out.call o1 r1)
      clear r1 o1 cT T3
      go_wp2_with fail
      refine (loop_any HC.out _ r q c z ⟨s.p + 1, s.o⟩ S1.out.rd (by simp only; omega)).mono ?_
      intro e w2 hE
      cases hx : loopR z (pz z f) ⟨s.p + 1, s.o⟩ with
      | error y =>
       obtain ⟨rfl, o9⟩ := hE.no hx
       have HRE := Lib.hid (show res = .error y by rw [← HR1.out, hx]; first | done | rfl)
       clear hE hx
       go_wp2_with fail
       exact ⟨rfl, S1.out.giv HRE.out o9⟩
      | ok y =>
       obtain ⟨x, s1⟩ := y
       obtain ⟨v, rfl, hv, r2, o2⟩ := hE.yes hx
       obtain ⟨qn, mn, ql, ml, rfl⟩ := EncN.open hv
       have HR2 := Lib.hid (show res = .ok (x, s1) by rw [← HR1.out, hx]; first | done | rfl)
       obtain ⟨nl, hnl⟩ : ∃ n, x.names.length = n := ⟨_, rfl⟩
       obtain ⟨kl, hkl⟩ : ∃ n, x.kids.length = n := ⟨_, rfl⟩
       rw [hnl, hkl] at hv ⊢
       have S2 := Lib.hid (S1.out.got o2 r2 hv)
       clear hE hx r2 o2 hv hnl hkl S1 HR1
       obtain ⟨_, _, _, _, _, _, f0, f1, f2, f3, f4, f5⟩ := S2.out.six
       have hltX := (S2.out.fst (List.mem_cons_self ..)).2
       go_wp2_with fail
       exact bodyPost_ret (v := ndV (x) (.slice qn nl mn) (.slice ql kl ml)) (by simp [results, Tryz.results91, go_sem, *]) rfl (S2.out.fin (by intro p hp; cases hp) (x := x) _ _ HR2.out fun W' hW' => hW'.pt (List.mem_cons_self ..))
     | false =>
      rw [hb, skipP_no hb] at cT
      have HN4 := Lib.hid hb
      clear hb
      refine cT.mono ?_
      rintro e wt4 ⟨rfl, r1, o1⟩
      have T4 := Lib.hid (T3.out.call o1 r1)
      clear r1 o1 cT T3
      go_wp2_with fail
      have cT := take_any wt4 r q c z s tBreak T4.out.rd
      cases hb : isW z s.p tBreak with
      | true =>
       rw [hb, skipP_yes hb] at cT
       have hltp := isW_lt hb
       have HR1 := Lib.hid (show res = .ok (ndK 8 [], ⟨s.p + 1, s.o⟩) by rw [← HR.out, if_neg (by rw [HN0.out]; decide), if_neg (by rw [HN1.out]; decide), if_neg (by rw [HN2.out]; decide), if_neg (by rw [HN3.out]; decide), if_neg (by rw [HN4.out]; decide), if_pos hb]; first | done | rfl)
       clear hb
       refine cT.mono ?_
       rintro e w1 ⟨rfl, r1, o1⟩
       have S1 := Lib.hid (T4.out.call o1 r1)
       clear r1 o1 cT T4
       obtain ⟨_, _, _, _, _, _, f0, f1, f2, f3, f4, f5⟩ := S1.out.six
       have hltX := (S1.out.fst (List.mem_cons_self ..)).2
       go_wp2_with fail
       exact bodyPost_ret (v := ndV (ndK 8 []) (.slice none 0 0) (.slice none 0 0)) (by simp [results, Tryz.results91, go_sem, *, ndK_k, ndK_name, ndK_text, ndK_n]) rfl (S1.out.fin (by intro p hp; cases hp) (x := ndK 8 []) _ _ HR1.out fun W' hW' => PtAt.mk _ _ 8 0 _ _ (PtAt.tx0 _ _) (PtAt.kd0 _ _))
      | false =>
       rw [hb, skipP_no hb] at cT
       have HN5 := Lib.hid hb
       clear hb
       refine cT.mono ?_
       rintro e wt5 ⟨rfl, r1, o1⟩
       have T5 := Lib.hid (T4.out.call o1 r1)
       clear r1 o1 cT T4
       go_wp2_with fail
       have cT := take_any wt5 r q c z s tReturn T5.out.rd
       cases hb : isW z s.p tReturn with
       | true =>
        rw [hb, skipP_yes hb] at cT
        have hltp := isW_lt hb
        have HR1 := Lib.hid (show returnR z (pz z f) ⟨s.p + 1, s.o⟩ = res by rw [← HR.out, if_neg (by rw [HN0.out]; decide), if_neg (by rw [HN1.out]; decide), if_neg (by rw [HN2.out]; decide), if_neg (by rw [HN3.out]; decide), if_neg (by rw [HN4.out]; decide), if_neg (by rw [HN5.out]; decide), if_pos hb]; first | done | rfl)
        clear hb
        refine cT.mono ?_
        rintro e w1 ⟨rfl, r1, o1⟩
        have S1 := Lib.hid (T5.out.call o1 r1)
        clear r1 o1 cT T5
        have hws : w.heap.size < w1.heap.size := (S1.out.fst (List.mem_cons_self ..)).2
        have S2 := Lib.hid (S1.out.newK (ndBx (.int .i64 7) (.string ⟨#[]⟩) (.string ⟨#[]⟩) (.int .i64 0) (.slice none 0 0) (.slice none 0 0)))
        have HR1 := Lib.hid (show returnR z (pz z f) ⟨s.p + 1, s.o⟩ = res from HR1.out)
        unfold returnR at HR1
        clear S1
        obtain ⟨s1, hs1⟩ : ∃ s1 : Ps, (⟨s.p + 1, s.o⟩ : Ps) = s1 := ⟨_, rfl⟩
        have hp1 : s1.p ≤ s.p + 1 ∧ s.p + 1 ≤ s1.p := ⟨by rw [← hs1]; exact Nat.le_refl _, by rw [← hs1]; exact Nat.le_refl _⟩
        rw [hs1] at S2 HR1
        clear hs1
        go_upto_region 18 with (fail)
        generalize w1.alloc (.cells #[.int .i64 7, .string ⟨#[]⟩, .string ⟨#[]⟩, .int .i64 0, .slice none 0 0, .slice none 0 0] 28) = W2 at *
        obtain ⟨d0, d1, _⟩ := S2.out.rd.four
        by_cases hltr : s1.p < z.ws.length
        rotate_left
        ·have hd : decide ((s1.p : Int) < (z.ws.length : Int)) = false := decide_eq_false (by omega)
         have hd2 : decide (s1.p < z.ws.length) = false := decide_eq_false hltr
         have HR2 := Lib.hid (show res = .ok (ndK 7 [], s1) by rw [← HR1.out, if_pos (by rw [hd2]; rfl)]; first | done | rfl)
         go_wp2_with fail
         refine wp_region_ext (by kernel_rfl) (by kernel_rfl) ?_
         repeat (
          first
           | go_big_quiet_skip
           | (
             go_big_quiet_want
             go_big_quiet_op
             first
              | go_big_quiet_on
              | (
                apply Exists.intro
                refine ⟨fun wq hq => ?_, ?_⟩
                focus (
                 have d0 := hq.cell d0
                 have d1 := hq.cell d1
                 first
                  | (go_simp; exact rfl))
                go_big_quiet_on)))
         refine wpQuiet_nil ?_
         intro we hwe
         have S3 := Lib.hid (S2.out.ext hwe)
         clear hwe d0 d1 S2
         obtain ⟨c0, c1, c2, c3, c4, c5, _⟩ := S3.out.six
         obtain ⟨_, _, _, _, _, _, f0, f1, f2, f3, f4, f5⟩ := S3.out.swap.six
         have hltX := (S3.out.fst (b := w.heap.size) (o := ndZ) (by simp)).2
         go_wp2_with fail
         exact bodyPost_ret (v := ndV (ndK 7 []) (.slice none 0 0) (.slice none 0 0)) (by simp [results, Tryz.results91, go_sem, *, ndK_k, ndK_name, ndK_text, ndK_n]) rfl (S3.out.swap.fin (by intro p hp; simp at hp; rw [hp]; simp only; omega) (x := ndK 7 []) _ _ HR2.out fun W' hW' => PtAt.mk _ _ 7 0 _ _ (PtAt.tx0 _ _) (PtAt.kd0 _ _))
        ·have hd : decide ((s1.p : Int) < (z.ws.length : Int)) = true := decide_eq_true (by omega)
         have hd2 : decide (s1.p < z.ws.length) = true := decide_eq_true hltr
         cases h0 : isW z s1.p [59] with
         | true =>
          have HR2 := Lib.hid (show res = .ok (ndK 7 [], s1) by rw [← HR1.out, if_pos (by rw [hd2, h0]; simp)]; first | done | rfl)
          have HI0 := Lib.hid (S2.out.rd.isin [59] h0)
          clear h0
          go_wp2_with fail
          refine wp_region_ext (by kernel_rfl) (by kernel_rfl) ?_
          repeat (
           first
            | go_big_quiet_skip
            | (
              go_big_quiet_want
              go_big_quiet_op
              first
               | go_big_quiet_on
               | (
                 apply Exists.intro
                 refine ⟨fun wq hq => ?_, ?_⟩
                 focus (
                  have d0 := hq.cell d0
                  have d1 := hq.cell d1
                  first
                   | (go_at_call 90; with_reducible exact HI0.out wq hq; done)
                   | (go_simp; exact rfl))
                 go_big_quiet_on)))
          refine wpQuiet_nil ?_
          intro we hwe
          have S3 := Lib.hid (S2.out.ext hwe)
          clear hwe d0 d1 S2
          obtain ⟨c0, c1, c2, c3, c4, c5, _⟩ := S3.out.six
          obtain ⟨_, _, _, _, _, _, f0, f1, f2, f3, f4, f5⟩ := S3.out.swap.six
          have hltX := (S3.out.fst (b := w.heap.size) (o := ndZ) (by simp)).2
          go_wp2_with fail
          exact bodyPost_ret (v := ndV (ndK 7 []) (.slice none 0 0) (.slice none 0 0)) (by simp [results, Tryz.results91, go_sem, *, ndK_k, ndK_name, ndK_text, ndK_n]) rfl (S3.out.swap.fin (by intro p hp; simp at hp; rw [hp]; simp only; omega) (x := ndK 7 []) _ _ HR2.out fun W' hW' => PtAt.mk _ _ 7 0 _ _ (PtAt.tx0 _ _) (PtAt.kd0 _ _))
         | false =>
          cases h1 : isW z s1.p tEnd with
          | true =>
           have HR2 := Lib.hid (show res = .ok (ndK 7 [], s1) by rw [← HR1.out, if_pos (by rw [hd2, h0, h1]; simp)]; first | done | rfl)
           have HI0 := Lib.hid (S2.out.rd.isin [59] h0)
           have HI1 := Lib.hid (S2.out.rd.isin tEnd h1)
           clear h0 h1
           go_wp2_with fail
           refine wp_region_ext (by kernel_rfl) (by kernel_rfl) ?_
           repeat (
            first
             | go_big_quiet_skip
             | (
               go_big_quiet_want
               go_big_quiet_op
               first
                | go_big_quiet_on
                | (
                  apply Exists.intro
                  refine ⟨fun wq hq => ?_, ?_⟩
                  focus (
                   have d0 := hq.cell d0
                   have d1 := hq.cell d1
                   first
                    | (go_at_call 90; with_reducible exact HI0.out wq hq; done)
                    | (go_at_call 90; with_reducible exact HI1.out wq hq; done)
                    | (go_simp; exact rfl))
                  go_big_quiet_on)))
           refine wpQuiet_nil ?_
           intro we hwe
           have S3 := Lib.hid (S2.out.ext hwe)
           clear hwe d0 d1 S2
           obtain ⟨c0, c1, c2, c3, c4, c5, _⟩ := S3.out.six
           obtain ⟨_, _, _, _, _, _, f0, f1, f2, f3, f4, f5⟩ := S3.out.swap.six
           have hltX := (S3.out.fst (b := w.heap.size) (o := ndZ) (by simp)).2
           go_wp2_with fail
           exact bodyPost_ret (v := ndV (ndK 7 []) (.slice none 0 0) (.slice none 0 0)) (by simp [results, Tryz.results91, go_sem, *, ndK_k, ndK_name, ndK_text, ndK_n]) rfl (S3.out.swap.fin (by intro p hp; simp at hp; rw [hp]; simp only; omega) (x := ndK 7 []) _ _ HR2.out fun W' hW' => PtAt.mk _ _ 7 0 _ _ (PtAt.tx0 _ _) (PtAt.kd0 _ _))
          | false =>
           cases h2 : isW z s1.p tElse with
           | true =>
            have HR2 := Lib.hid (show res = .ok (ndK 7 [], s1) by rw [← HR1.out, if_pos (by rw [hd2, h0, h1, h2]; simp)]; first | done | rfl)
            have HI0 := Lib.hid (S2.out.rd.isin [59] h0)
            have HI1 := Lib.hid (S2.out.rd.isin tEnd h1)
            have HI2 := Lib.hid (S2.out.rd.isin tElse h2)
            clear h0 h1 h2
            go_wp2_with fail
            refine wp_region_ext (by kernel_rfl) (by kernel_rfl) ?_
            repeat (
             first
              | go_big_quiet_skip
              | (
                go_big_quiet_want
                go_big_quiet_op
                first
                 | go_big_quiet_on
                 | (
                   apply Exists.intro
                   refine ⟨fun wq hq => ?_, ?_⟩
                   focus (
                    have d0 := hq.cell d0
                    have d1 := hq.cell d1
                    first
                     | (go_at_call 90; with_reducible exact HI0.out wq hq; done)
                     | (go_at_call 90; with_reducible exact HI1.out wq hq; done)
                     | (go_at_call 90; with_reducible exact HI2.out wq hq; done)
                     | (go_simp; exact rfl))
                   go_big_quiet_on)))
            refine wpQuiet_nil ?_
            intro we hwe
            have S3 := Lib.hid (S2.out.ext hwe)
            clear hwe d0 d1 S2
            obtain ⟨c0, c1, c2, c3, c4, c5, _⟩ := S3.out.six
            obtain ⟨_, _, _, _, _, _, f0, f1, f2, f3, f4, f5⟩ := S3.out.swap.six
            have hltX := (S3.out.fst (b := w.heap.size) (o := ndZ) (by simp)).2
            go_wp2_with fail
            exact bodyPost_ret (v := ndV (ndK 7 []) (.slice none 0 0) (.slice none 0 0)) (by simp [results, Tryz.results91, go_sem, *, ndK_k, ndK_name, ndK_text, ndK_n]) rfl (S3.out.swap.fin (by intro p hp; simp at hp; rw [hp]; simp only; omega) (x := ndK 7 []) _ _ HR2.out fun W' hW' => PtAt.mk _ _ 7 0 _ _ (PtAt.tx0 _ _) (PtAt.kd0 _ _))
           | false =>
            cases h3 : isW z s1.p tElseif with
            | true =>
             have HR2 := Lib.hid (show res = .ok (ndK 7 [], s1) by rw [← HR1.out, if_pos (by rw [hd2, h0, h1, h2, h3]; simp)]; first | done | rfl)
             have HI0 := Lib.hid (S2.out.rd.isin [59] h0)
             have HI1 := Lib.hid (S2.out.rd.isin tEnd h1)
             have HI2 := Lib.hid (S2.out.rd.isin tElse h2)
             have HI3 := Lib.hid (S2.out.rd.isin tElseif h3)
             clear h0 h1 h2 h3
             go_wp2_with fail
             refine wp_region_ext (by kernel_rfl) (by kernel_rfl) ?_
             repeat (
              first
               | go_big_quiet_skip
               | (
                 go_big_quiet_want
                 go_big_quiet_op
                 first
                  | go_big_quiet_on
                  | (
                    apply Exists.intro
                    refine ⟨fun wq hq => ?_, ?_⟩
                    focus (
                     have d0 := hq.cell d0
                     have d1 := hq.cell d1
                     first
                      | (go_at_call 90; with_reducible exact HI0.out wq hq; done)
                      | (go_at_call 90; with_reducible exact HI1.out wq hq; done)
                      | (go_at_call 90; with_reducible exact HI2.out wq hq; done)
                      | (go_at_call 90; with_reducible exact HI3.out wq hq; done)
                      | (go_simp; exact rfl))
                    go_big_quiet_on)))
             refine wpQuiet_nil ?_
             intro we hwe
             have S3 := Lib.hid (S2.out.ext hwe)
             clear hwe d0 d1 S2
             obtain ⟨c0, c1, c2, c3, c4, c5, _⟩ := S3.out.six
             obtain ⟨_, _, _, _, _, _, f0, f1, f2, f3, f4, f5⟩ := S3.out.swap.six
             have hltX := (S3.out.fst (b := w.heap.size) (o := ndZ) (by simp)).2
             go_wp2_with fail
             exact bodyPost_ret (v := ndV (ndK 7 []) (.slice none 0 0) (.slice none 0 0)) (by simp [results, Tryz.results91, go_sem, *, ndK_k, ndK_name, ndK_text, ndK_n]) rfl (S3.out.swap.fin (by intro p hp; simp at hp; rw [hp]; simp only; omega) (x := ndK 7 []) _ _ HR2.out fun W' hW' => PtAt.mk _ _ 7 0 _ _ (PtAt.tx0 _ _) (PtAt.kd0 _ _))
            | false =>
             have HR2 := Lib.hid (show (match (pz z f).ex 0 s1 with | .error e => .error e | .ok (x, s1) => .ok (ndK 7 [x], s1)) = res by rw [← HR1.out, if_neg (by rw [hd2, h0, h1, h2, h3]; decide)]; first | done | rfl)
             have HI0 := Lib.hid (S2.out.rd.isin [59] h0)
             have HI1 := Lib.hid (S2.out.rd.isin tEnd h1)
             have HI2 := Lib.hid (S2.out.rd.isin tElse h2)
             have HI3 := Lib.hid (S2.out.rd.isin tElseif h3)
             clear h0 h1 h2 h3 HR1
             go_wp2_with fail
             refine wp_region_ext (by kernel_rfl) (by kernel_rfl) ?_
             repeat (
              first
               | go_big_quiet_skip
               | (
                 go_big_quiet_want
                 go_big_quiet_op
                 first
                  | go_big_quiet_on
                  | (
                    apply Exists.intro
                    refine ⟨fun wq hq => ?_, ?_⟩
                    focus (
                     have d0 := hq.cell d0
                     have d1 := hq.cell d1
                     first
                      | (go_at_call 90; with_reducible exact HI0.out wq hq; done)
                      | (go_at_call 90; with_reducible exact HI1.out wq hq; done)
                      | (go_at_call 90; with_reducible exact HI2.out wq hq; done)
                      | (go_at_call 90; with_reducible exact HI3.out wq hq; done)
                      | (go_simp; exact rfl))
                    go_big_quiet_on)))
             refine wpQuiet_nil ?_
             intro we hwe
             have S3 := Lib.hid (S2.out.ext hwe)
             clear hwe d0 d1 S2
             clear HI0 HI1 HI2 HI3
             go_wp2_with fail
             refine (HC.out.ex0 we r q c z s1 S3.out.rd (by omega)).mono ?_
             intro e w4 hE
             cases hx : (pz z f).ex 0 s1 with
             | error y =>
              obtain ⟨rfl, o9⟩ := hE.no hx
              have HRE := Lib.hid (show res = .error y by rw [← HR2.out, hx]; first | done | rfl)
              clear hE hx
              go_wp2_with fail
              exact ⟨rfl, S3.out.giv HRE.out o9⟩
             | ok y =>
              obtain ⟨x, s2⟩ := y
              obtain ⟨v, rfl, hv, r2, o2⟩ := hE.yes hx
              obtain ⟨qn, mn, ql, ml, rfl⟩ := EncN.open hv
              have HR3 := Lib.hid (show res = .ok (ndK 7 [x], s2) by rw [← HR2.out, hx]; first | done | rfl)
              have SG := S3.out.got o2 r2 hv
              obtain ⟨_, _, _, _, _, k5, _, _, _, _, _, m5⟩ := SG.six
              have l5 := (SG.fst (List.mem_cons_self ..)).2
              have SB := SG.one (x := x) (List.mem_cons_self ..)
              obtain ⟨nb, hnb⟩ : ∃ n, x.names.length = n := ⟨_, rfl⟩
              obtain ⟨kb, hkb⟩ : ∃ n, x.kids.length = n := ⟨_, rfl⟩
              rw [hnb, hkb] at SB ⊢
              have SX0 := SB.set5 (by intro p hp; simp at hp; rw [hp]; simp only; omega) (.slice (some ⟨w4.heap.size, 0, none⟩) 1 1)
              rw [World.setCell_alloc_past _ _ _ _ l5] at SX0
              have SX := Lib.hid SX0
              clear hE hx r2 o2 hv hnb hkb S3 HR2 SB SG SX0
              go_upto_region 20 with (fail)
              generalize (w4.setCell ⟨w1.heap.size, 5, none⟩ (.slice (some ⟨w4.heap.size, 0, none⟩) 1 1)).alloc (.cells #[.int .i64 x.k, .string x.name, .string x.text, .int .i64 x.n, .slice qn nb mn, .slice ql kb ml] 28) = WX at *
              clear m5 l5 k5
              obtain ⟨c0, c1, c2, c3, c4, c5, _⟩ := SX.out.six
              obtain ⟨_, _, _, _, _, _, f0, f1, f2, f3, f4, f5⟩ := SX.out.swap.six
              have hltX := (SX.out.fst (b := w.heap.size) (o := ndZ) (by simp)).2
              go_wp2_with fail
              exact bodyPost_ret (v := ndV (ndK 7 [x]) (.slice none 0 0) (.slice (some ⟨w4.heap.size, 0, none⟩) 1 1)) (by simp [results, Tryz.results91, go_sem, *, ndK_k, ndK_name, ndK_text, ndK_n]) rfl (SX.out.swap.fin (by intro p hp; simp at hp; rw [hp]; simp only; omega) (x := ndK 7 [x]) _ _ HR3.out fun W' hW' => PtAt.mk _ _ 7 0 _ _ (PtAt.tx0 _ _) (hW'.pt (List.mem_cons_self ..)))
       | false =>
        rw [hb, skipP_no hb] at cT
        have HN6 := Lib.hid hb
        clear hb
        refine cT.mono ?_
        rintro e wt6 ⟨rfl, r1, o1⟩
        have T6 := Lib.hid (T5.out.call o1 r1)
        clear r1 o1 cT T5
        go_wp2_with fail
        have HR1 := Lib.hid (show plainR z (pz z f) s = res by rw [← HR.out, if_neg (by rw [HN0.out]; decide), if_neg (by rw [HN1.out]; decide), if_neg (by rw [HN2.out]; decide), if_neg (by rw [HN3.out]; decide), if_neg (by rw [HN4.out]; decide), if_neg (by rw [HN5.out]; decide), if_neg (by rw [HN6.out]; decide)]; first | done | rfl)
        unfold plainR at HR1
        refine (at_any wt6 r q c z s T6.out.rd).mono ?_
        rintro e w1 ⟨rfl, e1⟩
        have S1 := Lib.hid (T6.out.ext e1)
        have hws1 : w.heap.size < w1.heap.size := (S1.out.fst (List.mem_cons_self ..)).2
        obtain ⟨pl, hpl⟩ : ∃ pl, atW z s.p = pl := ⟨_, rfl⟩
        rw [hpl] at HR1 ⊢
        clear e1 T6 hpl HR
        go_wp2_with fail
        refine (HC.out.be w1 r q c z s S1.out.rd (by omega)).mono ?_
        intro e w2 hE
        cases hx : (pz z f).be s with
        | error y =>
         obtain ⟨rfl, o9⟩ := hE.no hx
         have HRE := Lib.hid (show res = .error y by rw [← HR1.out, hx]; first | done | rfl)
         clear hE hx
         go_wp2_with fail
         exact ⟨rfl, S1.out.giv HRE.out o9⟩
        | ok y =>
         obtain ⟨x, s1⟩ := y
         obtain ⟨v, rfl, hv, r2, o2⟩ := hE.yes hx
         obtain ⟨qn, mn, ql, ml, rfl⟩ := EncN.open hv
         have g1 := And.intro (pz_be_gt hx).1 (pz_be_gt hx).2.1
         have HR2 := Lib.hid (show (if x.k = 17 ∧ isW z s1.p [61] = false then .ok (x, s1)
           else if x.k = 15 ∨ x.k = 16 then (match wantP z s1 [61] with
            | .error e => .error e
            | .ok (_, s2) => match (pz z f).ex 0 s2 with | .error e => .error e | .ok (y, s3) => .ok (ndK 2 [x, y], s3))
           else .error (pl, 220)) = res by rw [← HR1.out, hx]; first | done | rfl)
         have hws2 : w.heap.size < w2.heap.size := by have := o2.le; omega
         have S20 := (S1.out.got o2 r2 hv).newK (ndBx (.int .i64 x.k) (.string x.name) (.string x.text) (.int .i64 x.n) (.slice qn x.names.length mn) (.slice ql x.kids.length ml))
         obtain ⟨nl, hnl⟩ : ∃ n, x.names.length = n := ⟨_, rfl⟩
         obtain ⟨kl, hkl⟩ : ∃ n, x.kids.length = n := ⟨_, rfl⟩
         rw [hnl, hkl] at S20 ⊢
         have S2 := Lib.hid S20
         clear hE hx r2 o2 hv hnl hkl S1 HR1 S20 hws1
         go_upto_region 23 with (fail)
         generalize w2.alloc (.cells #[.int .i64 x.k, .string x.name, .string x.text, .int .i64 x.n, .slice qn nl mn, .slice ql kl ml] 28) = W3 at *
         obtain ⟨y0, y1, y2, y3, y4, y5, _⟩ := S2.out.six
         have cI := is_any W3 r q c z s1 [61] S2.out.rd
         by_cases h17 : x.k = 17
         ·have t17 : (x.k == 17) = true := by rw [beq_iff_eq]; exact h17
          cases hb : isW z s1.p [61] with
          | false =>
           rw [hb] at cI
           have HR3 := Lib.hid (show res = .ok (x, s1) by rw [← HR2.out, if_pos ⟨h17, hb⟩]; first | done | rfl)
           clear hb h17
           go_wp2_with fail
           refine cI.mono ?_
           rintro e w4 ⟨rfl, e4⟩
           have S4 := Lib.hid (S2.out.ext e4)
           clear e4 S2 cI y0 y1 y2 y3 y4 y5 t17
           obtain ⟨c0, c1, c2, c3, c4, c5, _⟩ := S4.out.six
           obtain ⟨_, _, _, _, _, _, f0, f1, f2, f3, f4, f5⟩ := S4.out.swap.six
           have hltX := (S4.out.fst (b := w.heap.size) (o := ndZ) (by simp)).2
           go_wp2_with fail
           exact bodyPost_ret (v := ndV (x) (.slice qn nl mn) (.slice ql kl ml)) (by simp [results, Tryz.results91, go_sem, *]) rfl (S4.out.swap.fin (by intro p hp; simp at hp; rw [hp]; simp only; omega) (x := x) _ _ HR3.out fun W' hW' => hW'.pt (List.mem_cons_self ..))
          | true =>
           rw [hb] at cI
           have HR3 := Lib.hid (show res = .error (pl, 220) by rw [← HR2.out, if_neg (by rintro ⟨_, h⟩; rw [hb] at h; cases h), if_neg (by omega)]; first | done | rfl)
           have t15 : (x.k != 15) = true := by rw [bne_iff_ne]; omega
           have t16 : (x.k != 16) = true := by rw [bne_iff_ne]; omega
           have t15b : (x.k == 15) = false := by rw [beq_eq_false_iff_ne]; omega
           have t16b : (x.k == 16) = false := by rw [beq_eq_false_iff_ne]; omega
           clear hb h17
           go_wp2_with fail
           refine cI.mono ?_
           rintro e w4 ⟨rfl, e4⟩
           have S4 := Lib.hid (S2.out.ext e4)
           obtain ⟨z0, _⟩ := S4.out.six
           clear e4 S2 cI y0 y1 y2 y3 y4 y5 t17
           go_wp2_with fail
           exact ⟨rfl, .mk0 HR3.out S4.out.only⟩
         ·have t17 : (x.k == 17) = false := by rw [beq_eq_false_iff_ne]; exact h17
          by_cases h15 : x.k = 15 ∨ x.k = 16
          rotate_left
          ·have HR3 := Lib.hid (show res = .error (pl, 220) by rw [← HR2.out, if_neg (by rintro ⟨h, _⟩; exact h17 h), if_neg h15]; first | done | rfl)
           have t15 : (x.k != 15) = true := by rw [bne_iff_ne]; omega
           have t16 : (x.k != 16) = true := by rw [bne_iff_ne]; omega
           have t15b : (x.k == 15) = false := by rw [beq_eq_false_iff_ne]; omega
           have t16b : (x.k == 16) = false := by rw [beq_eq_false_iff_ne]; omega
           clear h17 h15 cI
           go_wp2_with fail
           exact ⟨rfl, .mk0 HR3.out S2.out.only⟩
          ·have HR3 := Lib.hid (show (match wantP z s1 [61] with
            | .error e => .error e
            | .ok (_, s2) => match (pz z f).ex 0 s2 with | .error e => .error e | .ok (y, s3) => .ok (ndK 2 [x, y], s3)) = res by rw [← HR2.out, if_neg (by rintro ⟨h, _⟩; exact h17 h), if_pos h15]; first | done | rfl)
           clear h17 cI HR2
           by_cases h : x.k = 15
           ·have t15 : (x.k != 15) = false := by simp [h]
            have t15b : (x.k == 15) = true := by simp [h]
            clear h h15
            go_upto_region 27 with (fail)
            go_wp2_with fail
            refine (want_any W3 r q c z s1 [61] S2.out.rd).mono ?_
            intro e w4 hE
            cases hx : wantP z s1 [61] with
            | error y =>
             obtain ⟨rfl, o9⟩ := hE.no hx
             have HRE := Lib.hid (show res = .error y by rw [← HR3.out, hx]; first | done | rfl)
             clear hE hx
             go_wp2_with fail
             exact ⟨rfl, S2.out.giv HRE.out o9⟩
            | ok y =>
             obtain ⟨u, s2⟩ := y
             obtain ⟨v, rfl, hv, r9, o9⟩ := hE.yes hx
             have g2 := And.intro (want_gt hx).1 (want_gt hx).2.1
             have HR4 := Lib.hid (show (match (pz z f).ex 0 s2 with | .error e => .error e | .ok (y, s3) => .ok (ndK 2 [x, y], s3)) = res by rw [← HR3.out, hx]; first | done | rfl)
             have S3 := Lib.hid (S2.out.call o9 r9)
             clear hE hx hv r9 o9 S2 HR3
             clear y0 y1 y2 y3 y4 y5
             go_wp2_with fail
             obtain ⟨y0, y1, y2, y3, y4, y5, _⟩ := S3.out.six
             have SC := Lib.hid S3.out.drew
             have hf2 : 10 * (z.ws.length - s2.p) + 8 ≤ f := by omega
             cases hx : (pz z f).ex 0 s2 with
             | error y =>
              have HRE := Lib.hid (show res = .error y by rw [← HR4.out, hx]; first | done | rfl)
              have HX := Lib.hid hx
              clear hx S3
              refine wp_region_gate (S := fun w' => w'.cell? ⟨w2.heap.size, 0, none⟩ = some (.int .i64 x.k) ∧ w'.cell? ⟨w2.heap.size, 1, none⟩ = some (.string x.name) ∧ w'.cell? ⟨w2.heap.size, 2, none⟩ = some (.string x.text) ∧ w'.cell? ⟨w2.heap.size, 3, none⟩ = some (.int .i64 x.n) ∧ w'.cell? ⟨w2.heap.size, 4, none⟩ = some (.slice qn nl mn) ∧ w'.cell? ⟨w2.heap.size, 5, none⟩ = some (.slice ql kl ml)) (g := 3) (by kernel_rfl) (⟨y0, y1, y2, y3, y4, y5⟩) (fun hHeld => ?_)
              refine tkG (i := 0) (v := ?_) ?_
              try simp only [Act.put, pzz]
              refine puG (i := 1) (v := ?_) ?_
              try simp only [Act.put, pzz]
              refine wpAnyG_ready (rs := [2]) (by kernel_rfl) (by simp) ?_
              refine AllReadyG.held rfl (fun K hK => ?_) AllReadyG.nil
              go_simp
              refine (HC.out.ex0 _ r q c z s2 SC.out.rd hf2).mono ?_
              intro e w3 hE
              obtain ⟨rfl, o3⟩ := hE.no HX.out
              exact ⟨rfl, SC.out.giv HRE.out o3⟩
             | ok y =>
              obtain ⟨x2, s3⟩ := y
              have HRF := Lib.hid (show res = .ok (ndK 2 [x, x2], s3) by rw [← HR4.out, hx]; first | done | rfl)
              have HX := Lib.hid hx
              clear hx S3 HR4
              refine wp_region_gate (S := fun w' => w'.cell? ⟨w2.heap.size, 0, none⟩ = some (.int .i64 x.k) ∧ w'.cell? ⟨w2.heap.size, 1, none⟩ = some (.string x.name) ∧ w'.cell? ⟨w2.heap.size, 2, none⟩ = some (.string x.text) ∧ w'.cell? ⟨w2.heap.size, 3, none⟩ = some (.int .i64 x.n) ∧ w'.cell? ⟨w2.heap.size, 4, none⟩ = some (.slice qn nl mn) ∧ w'.cell? ⟨w2.heap.size, 5, none⟩ = some (.slice ql kl ml)) (g := 3) (by kernel_rfl) (⟨y0, y1, y2, y3, y4, y5⟩) (fun hHeld => ?_)
              refine tkG (i := 0) (v := ?_) ?_
              try simp only [Act.put, pzz]
              refine puG (i := 1) (v := ?_) ?_
              try simp only [Act.put, pzz]
              refine wpAnyG_ready (rs := [2]) (by kernel_rfl) (by simp) ?_
              refine AllReadyG.held rfl (fun K hK => ?_) AllReadyG.nil
              go_simp
              refine (HC.out.ex0 _ r q c z s2 SC.out.rd hf2).mono ?_
              intro e w5 hE
              obtain ⟨v2, rfl, hv, r3, o3⟩ := hE.yes HX.out
              obtain ⟨qn2, mn2, ql2, ml2, rfl⟩ := EncN.open hv
              have SG := SC.out.got o3 r3 hv
              obtain ⟨z0, z1, z2, z3, z4, z5, _⟩ := SG.six
              have S3 := SG.two (x := x) (y := x2) (nx := .slice qn nl mn) (lx := .slice ql kl ml) (List.mem_cons_of_mem _ (List.mem_cons_self ..)) (List.mem_cons_self ..)
              obtain ⟨nl2, hnl2⟩ : ∃ n, x2.names.length = n := ⟨_, rfl⟩
              obtain ⟨kl2, hkl2⟩ : ∃ n, x2.kids.length = n := ⟨_, rfl⟩
              rw [hnl2, hkl2] at S3 ⊢
              obtain ⟨_, _, _, _, _, _, f0, f1, f2, f3, f4, f5⟩ := S3.swap.six
              have hlt := (S3.fst (b := w.heap.size) (o := ndZ) (by simp)).2
              have HS3 := Lib.hid S3
              have FF := Lib.hid (And.intro f0 (And.intro f1 (And.intro f2 (And.intro f3 (And.intro f4 f5)))))
              clear hE r3 o3 hv hnl2 hkl2 SC SG S3 f0 f1 f2 f3 f4 f5 y0 y1 y2 y3 y4 y5
              clear hHeld
              refine hK.out _ _ (⟨z0, z1, z2, z3, z4, z5⟩) (fun hHeld => ?_)
              clear hK K
              try simp only [Act.put, pzz]
              refine wpAnyG_ready (rs := [3]) (by kernel_rfl) (by simp) ?_
              refine AllReadyG.free rfl (by kernel_rfl) (fun K hK => ?_) AllReadyG.nil
              go_simp
              clear hHeld
              refine hK.out _ _ ?_
              clear hK K
              try simp only [Act.put, pzz]
              refine puG (i := 4) (v := ?_) ?_ (hS := fun h => absurd h (by decide))
              try simp only [Act.put, pzz]
              refine wpAnyG_ready (rs := [5]) (by kernel_rfl) (by simp) ?_
              refine AllReadyG.free rfl (by kernel_rfl) (fun K hK => ?_) AllReadyG.nil
              obtain ⟨f0, f1, f2, f3, f4, f5⟩ := FF.out
              go_simp
              refine hK.out _ _ ?_
              clear hK K
              try simp only [Act.put, pzz]
              refine wpAnyG_done (by kernel_rfl) ?_ _
              go_wp2_with fail
              exact bodyPost_ret (v := ndV (ndK 2 [x, x2]) (.slice none 0 0) (.slice (some ⟨w5.heap.size, 0, none⟩) 2 2)) (by simp [results, Tryz.results91, go_sem, *, ndK_k, ndK_name, ndK_text, ndK_n]) rfl (HS3.out.swap.fin (by intro p hp; simp at hp; rw [hp]; simp only; omega) (x := ndK 2 [x, x2]) _ _ HRF.out fun W' hW' => PtAt.mk _ _ 2 0 _ _ (PtAt.tx0 _ _) (hW'.pt (List.mem_cons_self ..)))
           ·have t15 : (x.k != 15) = true := by rw [bne_iff_ne]; exact h
            have t15b : (x.k == 15) = false := by rw [beq_eq_false_iff_ne]; exact h
            have h16 : x.k = 16 := by omega
            have t16 : (x.k != 16) = false := by simp [h16]
            have t16b : (x.k == 16) = true := by simp [h16]
            clear h h15 h16
            go_upto_region 27 with (fail)
            go_wp2_with fail
            refine (want_any W3 r q c z s1 [61] S2.out.rd).mono ?_
            intro e w4 hE
            cases hx : wantP z s1 [61] with
            | error y =>
             obtain ⟨rfl, o9⟩ := hE.no hx
             have HRE := Lib.hid (show res = .error y by rw [← HR3.out, hx]; first | done | rfl)
             clear hE hx
             go_wp2_with fail
             exact ⟨rfl, S2.out.giv HRE.out o9⟩
            | ok y =>
             obtain ⟨u, s2⟩ := y
             obtain ⟨v, rfl, hv, r9, o9⟩ := hE.yes hx
             have g2 := And.intro (want_gt hx).1 (want_gt hx).2.1
             have HR4 := Lib.hid (show (match (pz z f).ex 0 s2 with | .error e => .error e | .ok (y, s3) => .ok (ndK 2 [x, y], s3)) = res by rw [← HR3.out, hx]; first | done | rfl)
             have S3 := Lib.hid (S2.out.call o9 r9)
             clear hE hx hv r9 o9 S2 HR3
             clear y0 y1 y2 y3 y4 y5
             go_wp2_with fail
             obtain ⟨y0, y1, y2, y3, y4, y5, _⟩ := S3.out.six
             have SC := Lib.hid S3.out.drew
             have hf2 : 10 * (z.ws.length - s2.p) + 8 ≤ f := by omega
             cases hx : (pz z f).ex 0 s2 with
             | error y =>
              have HRE := Lib.hid (show res = .error y by rw [← HR4.out, hx]; first | done | rfl)
              have HX := Lib.hid hx
              clear hx S3
              refine wp_region_gate (S := fun w' => w'.cell? ⟨w2.heap.size, 0, none⟩ = some (.int .i64 x.k) ∧ w'.cell? ⟨w2.heap.size, 1, none⟩ = some (.string x.name) ∧ w'.cell? ⟨w2.heap.size, 2, none⟩ = some (.string x.text) ∧ w'.cell? ⟨w2.heap.size, 3, none⟩ = some (.int .i64 x.n) ∧ w'.cell? ⟨w2.heap.size, 4, none⟩ = some (.slice qn nl mn) ∧ w'.cell? ⟨w2.heap.size, 5, none⟩ = some (.slice ql kl ml)) (g := 3) (by kernel_rfl) (⟨y0, y1, y2, y3, y4, y5⟩) (fun hHeld => ?_)
              refine tkG (i := 0) (v := ?_) ?_
              try simp only [Act.put, pzz]
              refine puG (i := 1) (v := ?_) ?_
              try simp only [Act.put, pzz]
              refine wpAnyG_ready (rs := [2]) (by kernel_rfl) (by simp) ?_
              refine AllReadyG.held rfl (fun K hK => ?_) AllReadyG.nil
              go_simp
              refine (HC.out.ex0 _ r q c z s2 SC.out.rd hf2).mono ?_
              intro e w3 hE
              obtain ⟨rfl, o3⟩ := hE.no HX.out
              exact ⟨rfl, SC.out.giv HRE.out o3⟩
             | ok y =>
              obtain ⟨x2, s3⟩ := y
              have HRF := Lib.hid (show res = .ok (ndK 2 [x, x2], s3) by rw [← HR4.out, hx]; first | done | rfl)
              have HX := Lib.hid hx
              clear hx S3 HR4
              refine wp_region_gate (S := fun w' => w'.cell? ⟨w2.heap.size, 0, none⟩ = some (.int .i64 x.k) ∧ w'.cell? ⟨w2.heap.size, 1, none⟩ = some (.string x.name) ∧ w'.cell? ⟨w2.heap.size, 2, none⟩ = some (.string x.text) ∧ w'.cell? ⟨w2.heap.size, 3, none⟩ = some (.int .i64 x.n) ∧ w'.cell? ⟨w2.heap.size, 4, none⟩ = some (.slice qn nl mn) ∧ w'.cell? ⟨w2.heap.size, 5, none⟩ = some (.slice ql kl ml)) (g := 3) (by kernel_rfl) (⟨y0, y1, y2, y3, y4, y5⟩) (fun hHeld => ?_)
              refine tkG (i := 0) (v := ?_) ?_
              try simp only [Act.put, pzz]
              refine puG (i := 1) (v := ?_) ?_
              try simp only [Act.put, pzz]
              refine wpAnyG_ready (rs := [2]) (by kernel_rfl) (by simp) ?_
              refine AllReadyG.held rfl (fun K hK => ?_) AllReadyG.nil
              go_simp
              refine (HC.out.ex0 _ r q c z s2 SC.out.rd hf2).mono ?_
              intro e w5 hE
              obtain ⟨v2, rfl, hv, r3, o3⟩ := hE.yes HX.out
              obtain ⟨qn2, mn2, ql2, ml2, rfl⟩ := EncN.open hv
              have SG := SC.out.got o3 r3 hv
              obtain ⟨z0, z1, z2, z3, z4, z5, _⟩ := SG.six
              have S3 := SG.two (x := x) (y := x2) (nx := .slice qn nl mn) (lx := .slice ql kl ml) (List.mem_cons_of_mem _ (List.mem_cons_self ..)) (List.mem_cons_self ..)
              obtain ⟨nl2, hnl2⟩ : ∃ n, x2.names.length = n := ⟨_, rfl⟩
              obtain ⟨kl2, hkl2⟩ : ∃ n, x2.kids.length = n := ⟨_, rfl⟩
              rw [hnl2, hkl2] at S3 ⊢
              obtain ⟨_, _, _, _, _, _, f0, f1, f2, f3, f4, f5⟩ := S3.swap.six
              have hlt := (S3.fst (b := w.heap.size) (o := ndZ) (by simp)).2
              have HS3 := Lib.hid S3
              have FF := Lib.hid (And.intro f0 (And.intro f1 (And.intro f2 (And.intro f3 (And.intro f4 f5)))))
              clear hE r3 o3 hv hnl2 hkl2 SC SG S3 f0 f1 f2 f3 f4 f5 y0 y1 y2 y3 y4 y5
              clear hHeld
              refine hK.out _ _ (⟨z0, z1, z2, z3, z4, z5⟩) (fun hHeld => ?_)
              clear hK K
              try simp only [Act.put, pzz]
              refine wpAnyG_ready (rs := [3]) (by kernel_rfl) (by simp) ?_
              refine AllReadyG.free rfl (by kernel_rfl) (fun K hK => ?_) AllReadyG.nil
              go_simp
              clear hHeld
              refine hK.out _ _ ?_
              clear hK K
              try simp only [Act.put, pzz]
              refine puG (i := 4) (v := ?_) ?_ (hS := fun h => absurd h (by decide))
              try simp only [Act.put, pzz]
              refine wpAnyG_ready (rs := [5]) (by kernel_rfl) (by simp) ?_
              refine AllReadyG.free rfl (by kernel_rfl) (fun K hK => ?_) AllReadyG.nil
              obtain ⟨f0, f1, f2, f3, f4, f5⟩ := FF.out
              go_simp
              refine hK.out _ _ ?_
              clear hK K
              try simp only [Act.put, pzz]
              refine wpAnyG_done (by kernel_rfl) ?_ _
              go_wp2_with fail
              exact bodyPost_ret (v := ndV (ndK 2 [x, x2]) (.slice none 0 0) (.slice (some ⟨w5.heap.size, 0, none⟩) 2 2)) (by simp [results, Tryz.results91, go_sem, *, ndK_k, ndK_name, ndK_text, ndK_n]) rfl (HS3.out.swap.fin (by intro p hp; simp at hp; rw [hp]; simp only; omega) (x := ndK 2 [x, x2]) _ _ HRF.out fun W' hW' => PtAt.mk _ _ 2 0 _ _ (PtAt.tx0 _ _) (hW'.pt (List.mem_cons_self ..)))
end Go.Proofs.YtkbcnacjaakleaaGreatDoor
