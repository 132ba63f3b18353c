/- block: statements to its end. What is done within: opened, bracketed; ended. bracketed, ended, call. call: a call's operands. -/
import Derived.Test.YtkbcnacjaakleaaGreatDoorYP17
set_option maxRecDepth 100000
set_option maxHeartbeats 32000000
set_option linter.unusedVariables false
set_option linter.unusedSimpArgs false
namespace Go.Proofs.YtkbcnacjaakleaaGreatDoor
open Go.RowKit

theorem St.fin {w W : World} {r : Nat} {q : Option Addr} {c : Nat} {z : Wz} {s : Ps} {K : List (Nat × Obj)} {N : List Pt} {lv tv : Value} {l : List Nd} {tl : List ByteArray} {b : Nat} {res : PR Nd} (h : St w W r q c z s ((b, ndZ) :: K) N lv l tv tl) (hne : ∀ p ∈ K, p.1 ≠ b) {x : Nd} (nv lv' : Value) (hr : res = .ok (x, s))
  (hp : ∀ W', St w W' r q c z s ((b, ndBx (.int .i64 x.k) (.string x.name) (.string x.text) (.int .i64 x.n) nv lv') :: K) N lv l tv tl → PtAt (w.heap.size ≤ ·) W' (.nd (ndV x nv lv') x)) :
  RdR (EncN w) w r q c z res (.returned (ndV x nv lv')) (put6 W b (.int .i64 x.k) (.string x.name) (.string x.text) (.int .i64 x.n) nv lv') := by
 have S1 := h.set6 hne (.int .i64 x.k) (.string x.name) (.string x.text) (.int .i64 x.n) nv lv'
 exact S1.ret hr (hp _ S1)
theorem block_any {f : Nat} (hC : Con f) (w : World) (r : Nat) (q : Option Addr) (c : Nat) (z : Wz) (s : Ps) (h : RdAt w r q c z s) (hf : 10 * (z.ws.length - s.p) + 9 ≤ f) :
  Calls Tryz.prog 53 #[.pointer (some ⟨r, 0, none⟩)] w (RdR (EncN w) w r q c z (blockR z (pz z f).st s)) := by
 obtain ⟨res, hres⟩ : ∃ res, blockR z (pz z f).st s = res := ⟨_, rfl⟩
 rw [hres]
 rw [blockR_fin] at hres
 have HR := Lib.hid hres
 have HC := Lib.hid hC
 have hlow := h.lt
 have H0 := Lib.hid (((St.start h).newK ndZ).newK ndZ)
 have hsz : (w.alloc ndZ).heap.size = w.heap.size + 1 := size_alloc _ _
 rw [hsz] at H0
 clear hres h hC hsz
 go_enter Tryz.func53, Tryz.ntmps53
 go_wp2_with fail
 generalize (w.alloc ndZ).alloc ndZ = W0 at *
 have fin : ∀ (W : World) (s2 : Ps) (acc2 : List Nd) (N2 : List Pt) (q2 : Option Addr) (m2 c2 : Nat), St w W r q c z s2 [(w.heap.size + 1, ndBx (.int .i64 0) (.string ⟨#[]⟩) (.string ⟨#[]⟩) (.int .i64 0) (.slice none 0 0) (.slice q2 m2 c2)), (w.heap.size, ndZ)] N2 (.slice q2 m2 c2) acc2 (.slice none 0 0) [] → res = .ok (ndK 0 acc2, s2) →
   RdR (EncN w) w r q c z res (.returned (ndV (ndK 0 acc2) (.slice none 0 0) (.slice q2 m2 c2))) (put6 W w.heap.size (.int .i64 0) (.string ⟨#[]⟩) (.string ⟨#[]⟩) (.int .i64 0) (.slice none 0 0) (.slice q2 m2 c2)) := by
  intro W s2 acc2 N2 q2 m2 c2 hS hr
  exact hS.swap.fin (by intro p hp; simp at hp; rw [hp]; simp) (x := ndK 0 acc2) (.slice none 0 0) (.slice q2 m2 c2) hr fun W' hW' => PtAt.mk _ _ 0 0 _ _ (PtAt.tx0 _ _) hW'.kidsd
 have FIN := Lib.hid fin
 clear fin
 go_loopw [4] (fun s4 wr => ∃ (k : Nat) (s' : Ps) (acc : List Nd) (v : Value), Hid (St w wr r q c z s' [(w.heap.size + 1, ndBx (.int .i64 0) (.string ⟨#[]⟩) (.string ⟨#[]⟩) (.int .i64 0) (.slice none 0 0) v), (w.heap.size, ndZ)] [] v acc (.slice none 0 0) []) ∧ Hid (blkFin (blockL z (pz z f).st k s' acc) = res) ∧ z.ws.length - s'.p < k ∧ acc.length ≤ s'.p ∧ 10 * (z.ws.length - s'.p) + 9 ≤ f) (fun _ wr => z.ws.length - nxt wr r)
 case atStart => exact ⟨_, s, [], _, H0, HR, by omega, by simp, hf⟩
 case round =>
  obtain ⟨k, s', acc, v, ST, SP, hk, hacc, hfk⟩ := hrel
  obtain ⟨k, rfl⟩ : ∃ k', k = k' + 1 := ⟨k - 1, by omega⟩
  obtain ⟨qv, mv, cv, rfl⟩ : ∃ q m c, v = Value.slice q m c := by
   obtain ⟨q, c, e⟩ := ST.out.row.slice
   exact ⟨q, _, c, e⟩
  have hle := ST.out.rd.le
  have hlen := ST.out.rd.len
  have hnx := ST.out.nxt
  obtain ⟨d0, d1, _⟩ := ST.out.rd.four
  by_cases hlt : s'.p < z.ws.length
  rotate_left
  ·have hd : decide ((s'.p : Int) < (z.ws.length : Int)) = false := decide_eq_false (by omega)
   have hd2 : decide (s'.p < z.ws.length) = false := decide_eq_false hlt
   have hends : Hid (endsW z s'.p = true) := Lib.hid (by unfold endsW; rw [hd2]; rfl)
   go_wp2_with fail
   refine wp_region_ext (by kernel_rfl) (by kernel_rfl) ?_
   repeat (
    first
     | go_big_quiet_skip
     | (
       go_big_quiet_want
       go_big_quiet_op
       first
        | go_big_quiet_on
        | (
          apply Exists.intro
          refine ⟨fun wq hq => ?_, ?_⟩
          focus (
           have d0 := hq.cell d0
           have d1 := hq.cell d1
           first
            | (go_simp; exact rfl))
          go_big_quiet_on)))
   refine wpQuiet_nil ?_
   intro we hwe
   have S1 := Lib.hid (ST.out.ext hwe)
   have HF := Lib.hid (FIN.out we s' acc _ qv mv cv S1.out (by rw [← SP.out, blockL_end hends.out]; rfl))
   clear hwe d0 d1
   obtain ⟨c0, c1, c2, c3, c4, c5, _⟩ := S1.out.six
   obtain ⟨_, _, _, _, _, _, f0, f1, f2, f3, f4, f5⟩ := S1.out.swap.six
   have hlr := (S1.out.fst (b := w.heap.size) (o := ndZ) (by simp)).2
   go_wp2_with fail
   exact bodyPost_ret (v := ndV (ndK 0 acc) (.slice none 0 0) (.slice qv mv cv)) (by simp [results, Tryz.results53, go_sem, *, Nd.k, ndK, Nd.name, Nd.text, Nd.n]) rfl HF.out
  ·have hd : decide ((s'.p : Int) < (z.ws.length : Int)) = true := decide_eq_true (by omega)
   have hd2 : decide (s'.p < z.ws.length) = true := decide_eq_true hlt
   have hends : ∀ b1 b2 b3, isW z s'.p tEnd = b1 → isW z s'.p tElse = b2 → isW z s'.p tElseif = b3 → endsW z s'.p = (b1 || b2 || b3) := by
    intro b1 b2 b3 e1 e2 e3
    unfold endsW
    rw [hd2, e1, e2, e3]
    rfl
   cases h1 : isW z s'.p tEnd with
   | true =>
    have hends := Lib.hid (hends true _ _ h1 rfl rfl)
    have HI := Lib.hid (ST.out.rd.isin tEnd h1)
    clear h1
    simp only [Bool.true_or] at hends
    go_wp2_with fail
    refine wp_region_ext (by kernel_rfl) (by kernel_rfl) ?_
    repeat (
     first
      | go_big_quiet_skip
      | (
        go_big_quiet_want
        go_big_quiet_op
        first
         | go_big_quiet_on
         | (
           apply Exists.intro
           refine ⟨fun wq hq => ?_, ?_⟩
           focus (
            have d0 := hq.cell d0
            have d1 := hq.cell d1
            first
             | (go_at_call 90; with_reducible exact HI.out wq hq; done)
             | (go_simp; exact rfl))
           go_big_quiet_on)))
    refine wpQuiet_nil ?_
    intro we hwe
    have S1 := Lib.hid (ST.out.ext hwe)
    have HF := Lib.hid (FIN.out we s' acc _ qv mv cv S1.out (by rw [← SP.out, blockL_end hends.out]; rfl))
    clear hwe d0 d1
    obtain ⟨c0, c1, c2, c3, c4, c5, _⟩ := S1.out.six
    obtain ⟨_, _, _, _, _, _, f0, f1, f2, f3, f4, f5⟩ := S1.out.swap.six
    have hlr := (S1.out.fst (b := w.heap.size) (o := ndZ) (by simp)).2
    go_wp2_with fail
    exact bodyPost_ret (v := ndV (ndK 0 acc) (.slice none 0 0) (.slice qv mv cv)) (by simp [results, Tryz.results53, go_sem, *, Nd.k, ndK, Nd.name, Nd.text, Nd.n]) rfl HF.out
   | false =>
    have HI1 := Lib.hid (ST.out.rd.isin tEnd h1)
    cases h2 : isW z s'.p tElse with
    | true =>
     have hends := Lib.hid (hends false true _ h1 h2 rfl)
     have HI2 := Lib.hid (ST.out.rd.isin tElse h2)
     clear h1 h2
     simp only [Bool.true_or, Bool.or_true] at hends
     go_wp2_with fail
     refine wp_region_ext (by kernel_rfl) (by kernel_rfl) ?_
     repeat (
      first
       | go_big_quiet_skip
       | (
         go_big_quiet_want
         go_big_quiet_op
         first
          | go_big_quiet_on
          | (
            apply Exists.intro
            refine ⟨fun wq hq => ?_, ?_⟩
            focus (
             have d0 := hq.cell d0
             have d1 := hq.cell d1
             first
              | (go_at_call 90; with_reducible exact HI1.out wq hq; done)
              | (go_at_call 90; with_reducible exact HI2.out wq hq; done)
              | (go_simp; exact rfl))
            go_big_quiet_on)))
     refine wpQuiet_nil ?_
     intro we hwe
     have S1 := Lib.hid (ST.out.ext hwe)
     have HF := Lib.hid (FIN.out we s' acc _ qv mv cv S1.out (by rw [← SP.out, blockL_end hends.out]; rfl))
     clear hwe d0 d1
     obtain ⟨c0, c1, c2, c3, c4, c5, _⟩ := S1.out.six
     obtain ⟨_, _, _, _, _, _, f0, f1, f2, f3, f4, f5⟩ := S1.out.swap.six
     have hlr := (S1.out.fst (b := w.heap.size) (o := ndZ) (by simp)).2
     go_wp2_with fail
     exact bodyPost_ret (v := ndV (ndK 0 acc) (.slice none 0 0) (.slice qv mv cv)) (by simp [results, Tryz.results53, go_sem, *, Nd.k, ndK, Nd.name, Nd.text, Nd.n]) rfl HF.out
    | false =>
     have HI2 := Lib.hid (ST.out.rd.isin tElse h2)
     cases h3 : isW z s'.p tElseif with
     | true =>
      have hends := Lib.hid (hends false false true h1 h2 h3)
      have HI3 := Lib.hid (ST.out.rd.isin tElseif h3)
      clear h1 h2 h3
      simp only [Bool.true_or, Bool.or_true] at hends
      go_wp2_with fail
      refine wp_region_ext (by kernel_rfl) (by kernel_rfl) ?_
      repeat (
       first
        | go_big_quiet_skip
        | (
          go_big_quiet_want
          go_big_quiet_op
          first
           | go_big_quiet_on
           | (
             apply Exists.intro
             refine ⟨fun wq hq => ?_, ?_⟩
             focus (
              have d0 := hq.cell d0
              have d1 := hq.cell d1
              first
               | (go_at_call 90; with_reducible exact HI1.out wq hq; done)
               | (go_at_call 90; with_reducible exact HI2.out wq hq; done)
               | (go_at_call 90; with_reducible exact HI3.out wq hq; done)
               | (go_simp; exact rfl))
             go_big_quiet_on)))
      refine wpQuiet_nil ?_
      intro we hwe
      have S1 := Lib.hid (ST.out.ext hwe)
      have HF := Lib.hid (FIN.out we s' acc _ qv mv cv S1.out (by rw [← SP.out, blockL_end hends.out]; rfl))
      clear hwe d0 d1
      obtain ⟨c0, c1, c2, c3, c4, c5, _⟩ := S1.out.six
      obtain ⟨_, _, _, _, _, _, f0, f1, f2, f3, f4, f5⟩ := S1.out.swap.six
      have hlr := (S1.out.fst (b := w.heap.size) (o := ndZ) (by simp)).2
      go_wp2_with fail
      exact bodyPost_ret (v := ndV (ndK 0 acc) (.slice none 0 0) (.slice qv mv cv)) (by simp [results, Tryz.results53, go_sem, *, Nd.k, ndK, Nd.name, Nd.text, Nd.n]) rfl HF.out
     | false =>
      have HENDS := Lib.hid (hends false false false h1 h2 h3)
      have HI3 := Lib.hid (ST.out.rd.isin tElseif h3)
      clear h1 h2 h3 hends
      simp only [Bool.or_false] at HENDS
      go_wp2_with fail
      refine wp_region_ext (by kernel_rfl) (by kernel_rfl) ?_
      repeat (
       first
        | go_big_quiet_skip
        | (
          go_big_quiet_want
          go_big_quiet_op
          first
           | go_big_quiet_on
           | (
             apply Exists.intro
             refine ⟨fun wq hq => ?_, ?_⟩
             focus (
              have d0 := hq.cell d0
              have d1 := hq.cell d1
              first
               | (go_at_call 90; with_reducible exact HI1.out wq hq; done)
               | (go_at_call 90; with_reducible exact HI2.out wq hq; done)
               | (go_at_call 90; with_reducible exact HI3.out wq hq; done)
               | (go_simp; exact rfl))
             go_big_quiet_on)))
      refine wpQuiet_nil ?_
      intro we hwe
      have S1 := Lib.hid (ST.out.ext hwe)
      clear hwe d0 d1 HI1 HI2 HI3
      go_wp2_with fail
      refine (HC.out.st we r q c z s' S1.out.rd hfk).mono ?_
      intro e w2 hE
      cases hx : (pz z f).st s' with
      | error y =>
       obtain ⟨rfl, o2⟩ := hE.no hx
       have HR2 := Lib.hid (show res = .error y by rw [← SP.out, blockL_err HENDS.out hx]; rfl)
       clear hE hx
       go_wp2_with fail
       exact ⟨rfl, S1.out.giv HR2.out o2⟩
      | ok y =>
       obtain ⟨x, s1⟩ := y
       obtain ⟨vx, rfl, hv, r2, o2⟩ := hE.yes hx
       obtain ⟨qn, mn, ql, ml, rfl⟩ := EncN.open hv
       have hgt := pz_st_gt hx
       have g1 := hgt.1
       have g2 := hgt.2.1
       have HX := Lib.hid hx
       have S2 := Lib.hid ((S1.out.got o2 r2 hv).newbox (.int .i64 x.k) [.string x.name, .string x.text, .int .i64 x.n, .slice qn x.names.length mn, .slice ql x.kids.length ml] 28)
       obtain ⟨nl, hnl⟩ : ∃ n, x.names.length = n := ⟨_, rfl⟩
       obtain ⟨kl, hkl⟩ : ∃ n, x.kids.length = n := ⟨_, rfl⟩
       rw [hnl, hkl] at S2 ⊢
       clear hE hx hgt o2 r2 hv S1 hnl hkl
       obtain ⟨_, l4, e0, e1, e2, e3, e4, e5⟩ := S2.out.box6 (List.mem_cons_self ..)
       obtain ⟨c0, c1, c2, c3, c4, c5, _⟩ := S2.out.six
       obtain ⟨v', W3, hrun, S3⟩ := S2.out.push (x := x) (List.mem_cons_of_mem _ (List.mem_cons_self ..)) (by omega) 26
       obtain ⟨qv', mv', cv', rfl⟩ : ∃ q m c, v' = Value.slice q m c := by
        obtain ⟨q, c, e⟩ := S3.row.slice
        exact ⟨q, _, c, e⟩
       rw [size_alloc] at hrun
       have HRUN := Lib.hid hrun
       obtain ⟨_, _, _, _, _, k5, _, _, _, _, _, m5⟩ := S3.six
       have l5 := (S3.fst (List.mem_cons_self ..)).2
       have S4 := Lib.hid (S3.set5 (by intro p hp; simp at hp; rw [hp]; simp) (.slice qv' mv' cv'))
       clear hrun S3
       go_wp2_with (at_builtin; refine wpList_append_runs rfl _ _ 26 rfl _ _ _ _ rfl rfl HRUN.out ?_)
       generalize W3.setCell ⟨w.heap.size + 1, 5, none⟩ (.slice qv' mv' cv') = W4 at *
       clear c0 c1 c2 c3 c4 c5 e0 e1 e2 e3 e4 e5 k5 m5 l5 HRUN
       have hskp : (skipP z s1 [59]).p ≤ z.ws.length ∧ s1.p ≤ (skipP z s1 [59]).p := ⟨(skip_ge s1 [59]).2.1 g2, (skip_ge s1 [59]).1⟩
       refine (take_any W4 r q c z s1 [59] S4.out.rd).mono ?_
       rintro e w5 ⟨rfl, r5, o5⟩
       have S5 := Lib.hid (S4.out.call o5 r5)
       obtain ⟨sk, hsk⟩ : ∃ sk, skipP z s1 [59] = sk := ⟨_, rfl⟩
       rw [hsk] at S5 hskp
       have HSK := Lib.hid hsk
       obtain ⟨sp1, sp2⟩ := hskp
       clear r5 o5 S4 hsk
       obtain ⟨_, l6, y0, _⟩ := S5.out.box6 (List.mem_cons_self ..)
       by_cases h78 : x.k = 7 ∨ x.k = 8
       ·have HF := Lib.hid (FIN.out w5 sk (acc ++ [x]) _ qv' mv' cv' S5.out (by rw [← SP.out, blockL_last HENDS.out HX.out h78, HSK.out]; rfl))
        obtain ⟨c0, c1, c2, c3, c4, c5, _⟩ := S5.out.six
        obtain ⟨_, _, _, _, _, _, f0, f1, f2, f3, f4, f5⟩ := S5.out.swap.six
        have hlr := (S5.out.fst (b := w.heap.size) (o := ndZ) (by simp)).2
        by_cases h7 : x.k = 7
        ·have t7 : (x.k == 7) = true := by rw [h7]; rfl
         clear h78 h7
         go_wp2_with fail
         exact bodyPost_ret (v := ndV (ndK 0 (acc ++ [x])) (.slice none 0 0) (.slice qv' mv' cv')) (by simp [results, Tryz.results53, go_sem, *, Nd.k, ndK, Nd.name, Nd.text, Nd.n]) rfl HF.out
        ·have t7 : (x.k == 7) = false := by rw [beq_eq_false_iff_ne]; exact h7
         have t8 : (x.k == 8) = true := by
          rw [beq_iff_eq]
          rcases h78 with h | h
          ·exact absurd h h7
          ·exact h
         clear h78 h7
         go_wp2_with fail
         exact bodyPost_ret (v := ndV (ndK 0 (acc ++ [x])) (.slice none 0 0) (.slice qv' mv' cv')) (by simp [results, Tryz.results53, go_sem, *, Nd.k, ndK, Nd.name, Nd.text, Nd.n]) rfl HF.out
       ·have h7 : (x.k == 7) = false := by rw [beq_eq_false_iff_ne]; intro h; exact h78 (.inl h)
        have h8 : (x.k == 8) = false := by rw [beq_eq_false_iff_ne]; intro h; exact h78 (.inr h)
        have HR2 := Lib.hid (show blkFin (blockL z (pz z f).st k sk (acc ++ [x])) = res by rw [← SP.out, blockL_more HENDS.out HX.out h78, HSK.out])
        have S6 := Lib.hid (S5.out.sub (N' := []) (fun p hp => by cases hp))
        have hnx2 := S5.out.nxt
        clear h78 S5
        go_wp2_with fail
        go_roundw
        case rel => exact ⟨k, sk, _, _, S6, HR2, by omega, by rw [List.length_append]; simp; omega, by omega⟩
        case measure => rw [hnx, hnx2]; omega
abbrev rBx (r : Nat) : Obj := .cells #[.pointer (some ⟨r, 0, none⟩)] 86
def GN (w : World) (r : Nat) (q : Option Addr) (c : Nat) (z : Wz) (rb nb : Nat) : Nd → Ps → World → Prop := fun x s' W' =>
 ∃ qn mn ql ml, St w W' r q c z s' [(nb, ndBx (.int .i64 x.k) (.string x.name) (.string x.text) (.int .i64 x.n) (.slice qn x.names.length mn) (.slice ql x.kids.length ml)), (rb, rBx r)] [.nd (ndV x (.slice qn x.names.length mn) (.slice ql x.kids.length ml)) x] (.slice none 0 0) [] (.slice none 0 0) []
theorem GN.opn {w : World} {r : Nat} {q : Option Addr} {c : Nat} {z : Wz} {rb nb : Nat} {x : Nd} {s' : Ps} {W' : World} (h : GN w r q c z rb nb x s' W') {o : Nat} (ho : o ≤ 100) : RdAt W' r q c z s' ∧ GN w r q c z rb nb x ⟨s'.p, o⟩ (W'.setCell ⟨r, 3, none⟩ (.int .i64 (o : Int))) := by
 obtain ⟨qn, mn, ql, ml, hS⟩ := h
 exact ⟨hS.rd, qn, mn, ql, ml, hS.opn o ho⟩
theorem one_blk {w : World} {b : Nat} {t : TypeId} {x : Value} (h : Blk w b t #[x]) : w.cell? ⟨b, 0, none⟩ = some x := h.cell 0
theorem opened1_any {f : Nat} (hC : Con f) {w W : World} {r : Nat} {q : Option Addr} {c : Nat} {z : Wz} {s : Ps} {rb nb : Nat} (hne : rb ≠ nb) (S : St w W r q c z s [(nb, ndZ), (rb, rBx r)] [] (.slice none 0 0) [] (.slice none 0 0) []) (hf : 10 * (z.ws.length - s.p) + 9 ≤ f) :
  Calls Tryz.prog 272 #[.pointer (some ⟨rb, 0, none⟩), .pointer (some ⟨nb, 0, none⟩)] W (CloR (GN w r q c z rb nb) w r (blockR z (pz z f).st s)) := by
 obtain ⟨res, hres⟩ : ∃ res, blockR z (pz z f).st s = res := ⟨_, rfl⟩
 rw [hres]
 have HR := Lib.hid hres
 have cB := block_any hC W r q c z s S.rd hf
 rw [hres] at cB
 have HS := Lib.hid S
 have hrb := one_blk (S.blk (List.mem_cons_of_mem _ (List.mem_cons_self ..)))
 clear hres S hC
 go_enter Tryz.func272, Tryz.ntmps272
 go_wp2_with fail
 refine cB.mono ?_
 intro e w1 hE
 cases res with
 | error y =>
  obtain ⟨rfl, o1⟩ := hE.no rfl
  clear hE
  go_wp2_with fail
  exact ⟨rfl, .mk0 rfl (HS.out.only.trans o1)⟩
 | ok y =>
  obtain ⟨x, s1⟩ := y
  obtain ⟨v, rfl, hv, r1, o1⟩ := hE.yes rfl
  obtain ⟨qn, mn, ql, ml, rfl⟩ := EncN.open hv
  have S1 := HS.out.got o1 r1 hv
  obtain ⟨_, _, _, _, _, _, f0, f1, f2, f3, f4, f5⟩ := S1.six
  have hlt := (S1.fst (List.mem_cons_self ..)).2
  have S2 := Lib.hid (S1.set6 (by intro p hp; simp at hp; rw [hp]; exact hne) (.int .i64 x.k) (.string x.name) (.string x.text) (.int .i64 x.n) (.slice qn x.names.length mn) (.slice ql x.kids.length ml))
  clear hE r1 o1 hv S1 hrb
  go_wp2_with fail
  go_end0
  exact .mk1 rfl ⟨qn, mn, ql, ml, S2.out⟩
theorem bracketed1_any {f : Nat} (hC : Con f) {w W : World} {r : Nat} {q : Option Addr} {c : Nat} {z : Wz} {s : Ps} {rb nb : Nat} (hne : rb ≠ nb) (S : St w W r q c z s [(nb, ndZ), (rb, rBx r)] [] (.slice none 0 0) [] (.slice none 0 0) []) (hf : 10 * (z.ws.length - s.p) + 8 ≤ f) :
  Calls Tryz.prog 276 #[.pointer (some ⟨rb, 0, none⟩), .pointer (some ⟨nb, 0, none⟩)] W (CloR (GN w r q c z rb nb) w r ((pz z f).ex 0 s)) := by
 obtain ⟨res, hres⟩ : ∃ res, (pz z f).ex 0 s = res := ⟨_, rfl⟩
 rw [hres]
 have HR := Lib.hid hres
 have cB := hC.ex0 W r q c z s S.rd hf
 rw [hres] at cB
 have HS := Lib.hid S
 have hrb := one_blk (S.blk (List.mem_cons_of_mem _ (List.mem_cons_self ..)))
 clear hres S hC
 go_enter Tryz.func276, Tryz.ntmps276
 go_wp2_with fail
 refine cB.mono ?_
 intro e w1 hE
 cases res with
 | error y =>
  obtain ⟨rfl, o1⟩ := hE.no rfl
  clear hE
  go_wp2_with fail
  exact ⟨rfl, .mk0 rfl (HS.out.only.trans o1)⟩
 | ok y =>
  obtain ⟨x, s1⟩ := y
  obtain ⟨v, rfl, hv, r1, o1⟩ := hE.yes rfl
  obtain ⟨qn, mn, ql, ml, rfl⟩ := EncN.open hv
  have S1 := HS.out.got o1 r1 hv
  obtain ⟨_, _, _, _, _, _, f0, f1, f2, f3, f4, f5⟩ := S1.six
  have hlt := (S1.fst (List.mem_cons_self ..)).2
  have S2 := Lib.hid (S1.set6 (by intro p hp; simp at hp; rw [hp]; exact hne) (.int .i64 x.k) (.string x.name) (.string x.text) (.int .i64 x.n) (.slice qn x.names.length mn) (.slice ql x.kids.length ml))
  clear hE r1 o1 hv S1 hrb
  go_wp2_with fail
  go_end0
  exact .mk1 rfl ⟨qn, mn, ql, ml, S2.out⟩
theorem opened_any {f : Nat} (hC : Con f) (w : World) (r : Nat) (q : Option Addr) (c : Nat) (z : Wz) (s : Ps) (h : RdAt w r q c z s) (hp : 1 ≤ s.p) (hf : 10 * (z.ws.length - s.p) + 9 ≤ f) :
  Calls Tryz.prog 231 #[.pointer (some ⟨r, 0, none⟩)] w (RdR (EncN w) w r q c z (openedR z (pz z f).st s)) := by
 obtain ⟨res, hres⟩ : ∃ res, openedR z (pz z f).st s = res := ⟨_, rfl⟩
 rw [hres]
 have HR := Lib.hid (show withinR z (blockR z (pz z f).st) s = res from hres)
 have H0 := ((St.start h).newK (rBx r)).newK ndZ
 rw [size_alloc] at H0
 have hF : ∀ (args : Array Value) (w : World), (callFunc 272 args).run Tryz.prog w = .ok (.enter 272 args) w := fun _ _ => rfl
 have hrb := one_blk (H0.blk (List.mem_cons_of_mem _ (List.mem_cons_self ..)))
 have HC := Lib.hid hC
 have cW := within_any (G := GN w r q c z w.heap.size (w.heap.size + 1)) H0 272 #[.pointer (some ⟨w.heap.size, 0, none⟩), .pointer (some ⟨w.heap.size + 1, 0, none⟩)] hF (blockR z (pz z f).st) hp
  (fun W' hW' => opened1_any hC (by omega) hW' hf) (fun x s' hx => (block_ge (pz_adv z f).st _ _ _ hx).2.2) (fun x s' W' hg => hg.opn (by have := h.op; omega))
 rw [HR.out] at cW
 have hlow := h.lt
 have CW := Lib.hid cW
 clear hres h hC H0 cW
 go_enter Tryz.func231, Tryz.ntmps231
 go_wp2_with fail
 refine CW.out.mono ?_
 intro e w1 hE
 cases res with
 | error y =>
  obtain ⟨rfl, o1⟩ := hE.no rfl
  clear hE CW
  go_wp2_with fail
  exact ⟨rfl, .mk0 rfl o1⟩
 | ok y =>
  obtain ⟨x, s1⟩ := y
  obtain ⟨rfl, qn, mn, ql, ml, S1⟩ := hE.yes rfl
  obtain ⟨c0, c1, c2, c3, c4, c5, f0, f1, f2, f3, f4, f5⟩ := S1.six
  have hlt := (S1.fst (List.mem_cons_self ..)).2
  have S2 := Lib.hid (S1.set6 (by intro p hp; simp at hp; rw [hp]; simp) (.int .i64 x.k) (.string x.name) (.string x.text) (.int .i64 x.n) (.slice qn x.names.length mn) (.slice ql x.kids.length ml))
  clear hE S1 hrb CW
  go_wp2_with fail
  exact bodyPost_ret (v := ndV x (.slice qn x.names.length mn) (.slice ql x.kids.length ml)) (by simp [results, Tryz.results231, go_sem, *]) rfl (S2.out.ret rfl (S2.out.pt (List.mem_cons_self ..)))
theorem bracketed_any {f : Nat} (hC : Con f) (w : World) (r : Nat) (q : Option Addr) (c : Nat) (z : Wz) (s : Ps) (t : List UInt8) (h : RdAt w r q c z s) (hp : 1 ≤ s.p) (hf : 10 * (z.ws.length - s.p) + 8 ≤ f) :
  Calls Tryz.prog 236 #[.pointer (some ⟨r, 0, none⟩), strV t] w (RdR (EncN w) w r q c z (bracketR z (pz z f) t s)) := by
 obtain ⟨res, hres⟩ : ∃ res, bracketR z (pz z f) t s = res := ⟨_, rfl⟩
 rw [hres]
 obtain ⟨re0, hre⟩ : ∃ re, withinR z ((pz z f).ex 0) s = re := ⟨_, rfl⟩
 unfold bracketR at hres
 rw [hre] at hres
 have H0 := ((St.start h).newK (rBx r)).newK ndZ
 rw [size_alloc] at H0
 have hF : ∀ (args : Array Value) (w : World), (callFunc 276 args).run Tryz.prog w = .ok (.enter 276 args) w := fun _ _ => rfl
 have hrb := one_blk (H0.blk (List.mem_cons_of_mem _ (List.mem_cons_self ..)))
 have cW := within_any (G := GN w r q c z w.heap.size (w.heap.size + 1)) H0 276 #[.pointer (some ⟨w.heap.size, 0, none⟩), .pointer (some ⟨w.heap.size + 1, 0, none⟩)] hF ((pz z f).ex 0) hp
  (fun W' hW' => bracketed1_any hC (by omega) hW' hf) (fun x s' hx => (pz_ex_gt hx).2.2) (fun x s' W' hg => hg.opn (by have := h.op; omega))
 rw [hre] at cW
 have hlow := h.lt
 have CW := Lib.hid cW
 have HR := Lib.hid hres
 clear hre h hC H0 cW hres
 go_enter Tryz.func236, Tryz.ntmps236
 go_wp2_with fail
 refine CW.out.mono ?_
 intro e w1 hE
 cases re0 with
 | error y =>
  obtain ⟨rfl, o1⟩ := hE.no rfl
  have HR2 := Lib.hid (show res = .error y from HR.out.symm)
  clear hE CW HR
  go_wp2_with fail
  exact ⟨rfl, .mk0 HR2.out o1⟩
 | ok y =>
  obtain ⟨x, s1⟩ := y
  obtain ⟨rfl, qn, mn, ql, ml, S1⟩ := hE.yes rfl
  have HR2 := Lib.hid (show (match wantP z s1 t with | .error e => .error e | .ok (_, s2) => .ok (x, s2)) = res from HR.out)
  have HS1 := Lib.hid S1
  have hrb1 := one_blk (S1.blk (List.mem_cons_of_mem _ (List.mem_cons_self ..)))
  clear hE CW S1 HR hrb
  go_wp2_with fail
  refine (want_any w1 r q c z s1 t HS1.out.rd).mono ?_
  intro e w2 hE
  cases hx : wantP z s1 t with
  | error y =>
   obtain ⟨rfl, o2⟩ := hE.no hx
   have HR3 := Lib.hid (show res = .error y by rw [← HR2.out, hx])
   clear hE hx
   go_wp2_with fail
   exact ⟨rfl, HS1.out.giv HR3.out o2⟩
  | ok y =>
   obtain ⟨u, s2⟩ := y
   obtain ⟨v, rfl, hv, r2, o2⟩ := hE.yes hx
   have HR3 := Lib.hid (show res = .ok (x, s2) by rw [← HR2.out, hx])
   have S1 := HS1.out.call o2 r2
   obtain ⟨c0, c1, c2, c3, c4, c5, f0, f1, f2, f3, f4, f5⟩ := S1.six
   have hlt := (S1.fst (List.mem_cons_self ..)).2
   have S2 := Lib.hid (S1.set6 (by intro p hp; simp at hp; rw [hp]; simp) (.int .i64 x.k) (.string x.name) (.string x.text) (.int .i64 x.n) (.slice qn x.names.length mn) (.slice ql x.kids.length ml))
   clear hE hx S1 hrb1 hv r2 o2
   go_wp2_with fail
   exact bodyPost_ret (v := ndV x (.slice qn x.names.length mn) (.slice ql x.kids.length ml)) (by simp [results, Tryz.results236, go_sem, *]) rfl (S2.out.ret HR3.out (S2.out.pt (List.mem_cons_self ..)))
theorem ended_any {f : Nat} (hC : Con f) (w : World) (r : Nat) (q : Option Addr) (c : Nat) (z : Wz) (s : Ps) (h : RdAt w r q c z s) (hp : 1 ≤ s.p) (hf : 10 * (z.ws.length - s.p) + 9 ≤ f) :
  Calls Tryz.prog 176 #[.pointer (some ⟨r, 0, none⟩)] w (RdR (EncN w) w r q c z (endedR z (pz z f).st s)) := by
 obtain ⟨res, hres⟩ : ∃ res, endedR z (pz z f).st s = res := ⟨_, rfl⟩
 rw [hres]
 unfold endedR at hres
 have HR := Lib.hid hres
 have H0 := Lib.hid ((St.start h).newK ndZ)
 have cO := opened_any hC _ r q c z s H0.out.rd hp hf
 have hlow := h.lt
 clear hres h hC
 go_enter Tryz.func176, Tryz.ntmps176
 go_wp2_with fail
 refine cO.mono ?_
 intro e w1 hE
 cases hx : openedR z (pz z f).st s with
 | error y =>
  obtain ⟨rfl, o1⟩ := hE.no hx
  have HR2 := Lib.hid (show res = .error y by rw [← HR.out, hx])
  clear hE hx cO
  go_wp2_with fail
  exact ⟨rfl, H0.out.giv HR2.out o1⟩
 | ok y =>
  obtain ⟨x, s1⟩ := y
  obtain ⟨v, rfl, hv, r1, o1⟩ := hE.yes hx
  obtain ⟨qn, mn, ql, ml, rfl⟩ := EncN.open hv
  have HR2 := Lib.hid (show (match wantP z s1 tEnd with | .error e => .error e | .ok (_, s2) => .ok (x, s2)) = res by rw [← HR.out, hx]; rfl)
  obtain ⟨nl, hnl⟩ : ∃ n, x.names.length = n := ⟨_, rfl⟩
  obtain ⟨kl, hkl⟩ : ∃ n, x.kids.length = n := ⟨_, rfl⟩
  rw [hnl, hkl] at hv ⊢
  have S1 := Lib.hid ((H0.out.got o1 r1 hv).newbox (.int .i64 x.k) [.string x.name, .string x.text, .int .i64 x.n, .slice qn nl mn, .slice ql kl ml] 28)
  clear hE hx cO hv r1 o1 HR hnl hkl
  go_wp2_with fail
  generalize w1.alloc (.cells #[.int .i64 x.k, .string x.name, .string x.text, .int .i64 x.n, .slice qn nl mn, .slice ql kl ml] 28) = W1 at *
  refine (want_any W1 r q c z s1 tEnd S1.out.rd).mono ?_
  intro e w2 hE
  cases hx : wantP z s1 tEnd with
  | error y =>
   obtain ⟨rfl, o2⟩ := hE.no hx
   have HR3 := Lib.hid (show res = .error y by rw [← HR2.out, hx])
   clear hE hx
   go_wp2_with fail
   exact ⟨rfl, S1.out.giv HR3.out o2⟩
  | ok y =>
   obtain ⟨u, s2⟩ := y
   obtain ⟨v, rfl, hv, r2, o2⟩ := hE.yes hx
   have HR3 := Lib.hid (show res = .ok (x, s2) by rw [← HR2.out, hx])
   have S2 := Lib.hid (S1.out.call o2 r2)
   obtain ⟨_, l4, e0, e1, e2, e3, e4, e5⟩ := S2.out.box6 (List.mem_cons_self ..)
   obtain ⟨_, _, _, _, _, _, f0, f1, f2, f3, f4, f5⟩ := S2.out.six
   have hlt := (S2.out.fst (List.mem_cons_self ..)).2
   clear hE hx hv r2 o2
   go_wp2_with fail
   exact bodyPost_ret (v := ndV x (.slice qn nl mn) (.slice ql kl ml)) (by simp [results, Tryz.results176, go_sem, *]) rfl (S2.out.fin (by intro p hp; cases hp) _ _ HR3.out fun W' hW' => hW'.pt (List.mem_cons_of_mem _ (List.mem_cons_self ..)))
def GK (w : World) (r : Nat) (q : Option Addr) (c : Nat) (z : Wz) (K : List (Nat × Obj)) (nb : Nat) (x0 x1 x2 x3 x4 : Value) : List Nd → Ps → World → Prop := fun l s' W' =>
 ∃ qv cv, St w W' r q c z s' ((nb, ndBx x0 x1 x2 x3 x4 (.slice qv l.length cv)) :: K) [.kd (.slice qv l.length cv) l] (.slice none 0 0) [] (.slice none 0 0) []
theorem GK.opn {w : World} {r : Nat} {q : Option Addr} {c : Nat} {z : Wz} {K : List (Nat × Obj)} {nb : Nat} {x0 x1 x2 x3 x4 : Value} {l : List Nd} {s' : Ps} {W' : World} (h : GK w r q c z K nb x0 x1 x2 x3 x4 l s' W') {o : Nat} (ho : o ≤ 100) : RdAt W' r q c z s' ∧ GK w r q c z K nb x0 x1 x2 x3 x4 l ⟨s'.p, o⟩ (W'.setCell ⟨r, 3, none⟩ (.int .i64 (o : Int))) := by
 obtain ⟨qv, cv, hS⟩ := h
 exact ⟨hS.rd, qv, cv, hS.opn o ho⟩
theorem EncK.open {w W : World} {l : List Nd} {v : Value} (h : EncK w l v W) : ∃ qv cv, v = .slice qv l.length cv := by
 obtain ⟨d, hd⟩ := h
 exact hd.slice
theorem argsR_no {z : Wz} {r : Pz} {s : Ps} (h : isW z s.p [41] = true) : argsR z r s = .ok ([], s) := by unfold argsR; rw [if_pos h]
theorem argsR_yes {z : Wz} {r : Pz} {s : Ps} (h : isW z s.p [41] = false) : argsR z r s = commaR z (r.ex 0) s := by unfold argsR; rw [if_neg (by rw [h]; decide)]
theorem call1_any {f : Nat} (hC : Con f) {w W : World} {r : Nat} {q : Option Addr} {c : Nat} {z : Wz} {s : Ps} {K : List (Nat × Obj)} {rb nb : Nat} {x0 x1 x2 x3 x4 : Value} (hne : ∀ p ∈ K, p.1 ≠ nb) (hrK : (rb, rBx r) ∈ K) (S : St w W r q c z s ((nb, ndBx x0 x1 x2 x3 x4 (.slice none 0 0)) :: K) [] (.slice none 0 0) [] (.slice none 0 0) []) (hf : 10 * (z.ws.length - s.p) + 8 ≤ f) :
  Calls Tryz.prog 308 #[.pointer (some ⟨rb, 0, none⟩), .pointer (some ⟨nb, 0, none⟩)] W (CloR (GK w r q c z K nb x0 x1 x2 x3 x4) w r (argsR z (pz z f) s)) := by
 have hrb := one_blk (S.blk (List.mem_cons_of_mem _ hrK))
 have HS := Lib.hid S
 have cI := is_any W r q c z s [41] S.rd
 cases hb : isW z s.p [41] with
 | true =>
  rw [hb] at cI
  rw [argsR_no hb]
  clear hb S hC
  go_enter Tryz.func308, Tryz.ntmps308
  go_wp2_with fail
  refine cI.mono ?_
  rintro e w1 ⟨rfl, e1⟩
  have S1 := Lib.hid (HS.out.ext e1)
  clear e1
  go_wp2_with fail
  go_end0
  exact .mk1 rfl ⟨none, 0, S1.out.add ⟨0, .nil _ _ 0⟩⟩
 | false =>
  rw [hb] at cI
  rw [argsR_yes hb]
  obtain ⟨res, hres⟩ : ∃ res, commaR z ((pz z f).ex 0) s = res := ⟨_, rfl⟩
  have cL := fun W' (h : RdAt W' r q c z s) => list_any hC W' r q c z s h hf
  rw [hres] at cL ⊢
  have CL := Lib.hid cL
  clear hb S hC hres cL
  go_enter Tryz.func308, Tryz.ntmps308
  go_wp2_with fail
  refine cI.mono ?_
  rintro e w1 ⟨rfl, e1⟩
  have S1 := Lib.hid (HS.out.ext e1)
  have hrb1 := one_blk (S1.out.blk (List.mem_cons_of_mem _ hrK))
  clear e1 hrb
  go_wp2_with fail
  refine (CL.out w1 S1.out.rd).mono ?_
  intro e w2 hE
  cases res with
  | error y =>
   obtain ⟨rfl, o2⟩ := hE.no rfl
   clear hE
   go_wp2_with fail
   exact ⟨rfl, .mk0 rfl (S1.out.only.trans o2)⟩
  | ok y =>
   obtain ⟨l, s1⟩ := y
   obtain ⟨v, rfl, hv, r2, o2⟩ := hE.yes rfl
   obtain ⟨qv, cv, rfl⟩ := EncK.open hv
   have S2 := S1.out.got o2 r2 hv
   obtain ⟨_, _, _, _, _, _, _, _, _, _, _, f5⟩ := S2.six
   have hlt := (S2.fst (List.mem_cons_self ..)).2
   have S3 := Lib.hid (S2.set5 hne (.slice qv l.length cv))
   obtain ⟨m, hm⟩ : ∃ m, l.length = m := ⟨_, rfl⟩
   have HM := Lib.hid hm
   rw [hm] at S3 ⊢
   clear hE r2 o2 hv S2 hm hrb1
   go_wp2_with fail
   go_end0
   exact .mk1 rfl ⟨qv, cv, by rw [HM.out]; exact S3.out⟩
theorem call_any {f : Nat} (hC : Con f) (w : World) (r : Nat) (q : Option Addr) (c : Nat) (z : Wz) (s : Ps) (nm : ByteArray) (h : RdAt w r q c z s) (hp : 1 ≤ s.p) (hf : 10 * (z.ws.length - s.p) + 8 ≤ f) :
  Calls Tryz.prog 274 #[.pointer (some ⟨r, 0, none⟩), .string nm] w (RdR (EncN w) w r q c z (callN z (pz z f) nm s)) := by
 obtain ⟨res, hres⟩ : ∃ res, callN z (pz z f) nm s = res := ⟨_, rfl⟩
 rw [hres]
 obtain ⟨re0, hre⟩ : ∃ re, withinR z (argsR z (pz z f)) s = re := ⟨_, rfl⟩
 unfold callN at hres
 rw [hre] at hres
 have H0 := (((St.start h).newK (rBx r)).newK ndZ).newK (ndBx (.int .i64 17) (.string nm) (.string ⟨#[]⟩) (.int .i64 0) (.slice none 0 0) (.slice none 0 0))
 simp only [size_alloc] at H0
 have hF : ∀ (args : Array Value) (w : World), (callFunc 308 args).run Tryz.prog w = .ok (.enter 308 args) w := fun _ _ => rfl
 have hrb := one_blk (H0.blk (b := w.heap.size) (t := 86) (cs := #[.pointer (some ⟨r, 0, none⟩)]) (by simp))
 have cW := within_any (G := GK w r q c z [(w.heap.size + 1, ndZ), (w.heap.size, rBx r)] (w.heap.size + 1 + 1) (.int .i64 17) (.string nm) (.string ⟨#[]⟩) (.int .i64 0) (.slice none 0 0)) H0 308 #[.pointer (some ⟨w.heap.size, 0, none⟩), .pointer (some ⟨w.heap.size + 1 + 1, 0, none⟩)] hF (argsR z (pz z f)) hp
  (fun W' hW' => call1_any hC (by intro p hp; simp at hp; rcases hp with hp | hp <;> rw [hp] <;> simp <;> omega) (by simp) hW' hf) (fun x s' hx => (args_ge (pz_adv z f) _ _ _ hx).2.2) (fun x s' W' hg => hg.opn (by have := h.op; omega))
 rw [hre] at cW
 have hlow := h.lt
 have CW := Lib.hid cW
 have HR := Lib.hid hres
 clear hre h hC H0 cW hres
 go_enter Tryz.func274, Tryz.ntmps274
 go_wp2_with fail
 refine CW.out.mono ?_
 intro e w1 hE
 cases re0 with
 | error y =>
  obtain ⟨rfl, o1⟩ := hE.no rfl
  have HR2 := Lib.hid (show res = .error y from HR.out.symm)
  clear hE CW HR
  go_wp2_with fail
  exact ⟨rfl, .mk0 HR2.out o1⟩
 | ok y =>
  obtain ⟨l, s1⟩ := y
  obtain ⟨rfl, qv, cv, S1⟩ := hE.yes rfl
  have HR2 := Lib.hid (show (match wantP z s1 [41] with | .error e => .error e | .ok (_, s2) => .ok (ndS 17 nm l, s2)) = res from HR.out)
  have HS1 := Lib.hid S1
  have hrb1 := one_blk (S1.blk (b := w.heap.size) (t := 86) (cs := #[.pointer (some ⟨r, 0, none⟩)]) (by simp))
  clear hE CW S1 HR hrb
  go_wp2_with fail
  refine (want_any w1 r q c z s1 [41] HS1.out.rd).mono ?_
  intro e w2 hE
  cases hx : wantP z s1 [41] with
  | error y =>
   obtain ⟨rfl, o2⟩ := hE.no hx
   have HR3 := Lib.hid (show res = .error y by rw [← HR2.out, hx])
   clear hE hx
   go_wp2_with fail
   exact ⟨rfl, HS1.out.giv HR3.out o2⟩
  | ok y =>
   obtain ⟨u, s2⟩ := y
   obtain ⟨v, rfl, hv, r2, o2⟩ := hE.yes hx
   have HR3 := Lib.hid (show res = .ok (ndS 17 nm l, s2) by rw [← HR2.out, hx])
   have S1 := Lib.hid (HS1.out.call o2 r2)
   obtain ⟨c0, c1, c2, c3, c4, c5, _⟩ := S1.out.six
   obtain ⟨_, _, _, _, _, _, f0, f1, f2, f3, f4, f5⟩ := S1.out.swap.six
   have hlt := (S1.out.fst (b := w.heap.size + 1) (o := ndZ) (by simp)).2
   obtain ⟨m, hm⟩ : ∃ m, l.length = m := ⟨_, rfl⟩
   have HM := Lib.hid hm
   rw [hm] at c5
   clear hE hx hrb1 hv r2 o2 hm HS1
   go_wp2_with fail
   exact bodyPost_ret (v := ndV (ndS 17 nm l) (.slice none 0 0) (.slice qv m cv)) (by simp [results, Tryz.results274, go_sem, *, ndS, Nd.k, Nd.name, Nd.text, Nd.n]) rfl (S1.out.swap.fin (by intro p hp; simp at hp; rcases hp with hp | hp <;> rw [hp] <;> simp) _ _ HR3.out fun W' hW' => PtAt.mk _ _ 17 0 _ _ (PtAt.tx0 _ _) (by rw [← HM.out]; exact hW'.pt (List.mem_cons_self ..)))
end Go.Proofs.YtkbcnacjaakleaaGreatDoor
