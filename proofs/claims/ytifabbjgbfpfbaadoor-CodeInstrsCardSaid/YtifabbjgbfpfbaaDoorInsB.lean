/- CodeInstrs: the walk. -/
import Derived.Test.YtifabbjgbfpfbaaDoorInsA
import Derived.Test.YtifabbjgbfpfbaaDoorLawK
import Derived.Deep.LoopGhost
import Derived.Deep.DeepCutAuto
import Derived.Deep.RegionHeld3
import Derived.Deep.DrawnRows
namespace Go.Proofs.YtifabbjgbfpfbaaDoor
open Go.RowKit Go.BigFrame
set_option linter.unusedVariables false
set_option linter.unusedSimpArgs false
attribute [local go_sem ↓] Go.wp_at_zero Go.wp_at_succ

abbrev pgOf (f : Pr) (rest : List Pr) (ni : Nat) (ts : List ByteArray) : Pg := ⟨f :: rest, ni, ts⟩
/-- A program's first function with other instructions. -/
abbrev with0 (f : Pr) (cd : List Ins) : Pr := ⟨f.pa, f.rg, cd⟩
/-- Where the parts of a program, and the instructions, lie. -/
structure Parts (w : World) (bp op cp bc oc cc : Nat) (f : Pr) (rest : List Pr) (L : List (Pr × Value)) : Prop where
  c0 : w.cell? ⟨bp, op, none⟩ = some (.int .i64 f.pa)
  c1 : w.cell? ⟨bp, op + 1, none⟩ = some (.int .i64 f.rg)
  c2 : w.cell? ⟨bp, op + 2, none⟩ = some (.slice (some ⟨bc, oc, none⟩) f.cd.length cc)
  more : RowsAt w bp (op + 3) 3 (L.map rowP)
  fsts : L.map (·.1) = rest
  codes : ∀ x ∈ L, CodeAt w x.2 x.1.cd
  code : RowsAt w bc oc 4 (f.cd.map rowI)
theorem Parts.ext {w w' : World} {bp op cp bc oc cc : Nat} {f : Pr} {rest : List Pr} {L : List (Pr × Value)} (h : Parts w bp op cp bc oc cc f rest L) (he : Ext w w') : Parts w' bp op cp bc oc cc f rest L :=
  ⟨he.cell h.c0, he.cell h.c1, he.cell h.c2, h.more.ext he, h.fsts, fun x hx => (h.codes x hx).ext he, h.code.ext he⟩
theorem parts_of {w : World} {vp : Value} {f : Pr} {rest : List Pr} (h : ProtosAt w vp (f :: rest)) (hc : 0 < f.cd.length) :
    ∃ bp op cp bc oc cc L, vp = .slice (some ⟨bp, op, none⟩) (rest.length + 1) cp ∧ Parts w bp op cp bc oc cc f rest L := by
  obtain ⟨b, o, c, L, rfl, hr, hm, hcs⟩ := h.rows (by simp)
  match L, hm with
  | (f', cv) :: L, hm =>
    simp only [List.map_cons, List.cons.injEq] at hm
    obtain ⟨rfl, rfl⟩ := hm
    obtain ⟨bc, oc, cc, e, hcr⟩ := (hcs (f', cv) (List.mem_cons_self ..)).rows hc
    simp only at e
    subst e
    have h0 := hr 0 (by simp)
    refine ⟨b, o, c, bc, oc, cc, L, rfl, by simpa using h0 0 _ rfl, by simpa using h0 1 _ rfl, by simpa using h0 2 _ rfl, ?_, rfl, fun x hx => hcs x (List.mem_cons_of_mem _ hx), hcr⟩
    exact RowsAt.tail hr

theorem row_after (w : World) (q : Addr) (u : Value) (x : Ins) : RowsAt ((w.setCell q u).alloc (.cells #[.int .i64 x.op, .int .i64 x.a, .int .i64 x.b, .int .i64 x.c] 37)) w.heap.size 0 4 ([x].map rowI) := by
  have hs : (w.setCell q u).heap.size = w.heap.size := by simp [World.setCell]
  refine RowsAt.of_flat (rowI_len _) (fun j v hv => ?_)
  have := new_row (w.setCell q u) (rowI x) 37 j v (by simpa using hv)
  rw [Nat.zero_add, hs] at this
  exact this
theorem few_with {f : Pr} {rest : List Pr} {ni : Nat} {ts : List ByteArray} (h : NotLarge (pgOf f rest ni ts)) (l : List Ins) (hl : l.length ≤ 200) : Few (pgOf (with0 f l) rest ni ts) := by
  refine ⟨Nat.le_trans (show rest.length + 1 ≤ 10 from h.np) (by omega), ?_, Nat.le_trans h.ni (by omega), Nat.le_trans h.nt (by omega)⟩
  intro g hg
  rcases List.mem_cons.mp hg with rfl | hg
  · exact hl
  · exact Nat.le_trans (h.nc g (List.mem_cons_of_mem _ hg)) (by omega)
theorem lies_with {w : World} {g c z ni : Nat} {f : Pr} {rest : List Pr} {ts : List ByteArray} {L : List (Pr × Value)} {l : List Ins} {cv vi vt : Value}
    (hr : RowsAt w g 0 3 (((with0 f l, cv) :: L).map rowP)) (hz : L.length = z) (hf : L.map (·.1) = rest) (h0 : CodeAt w cv l) (hc : ∀ x ∈ L, CodeAt w x.2 x.1.cd) (hi : IntsAt vi ni) (ht : TextsAt w vt ts) :
    Lies w (.slice (some ⟨g, 0, none⟩) (1 + z) c) vi vt (pgOf (with0 f l) rest ni ts) := by
  have hp : ProtosAt w (.slice (some ⟨g, 0, none⟩) ((with0 f l, cv) :: L).length c) (((with0 f l, cv) :: L).map (·.1)) := ProtosAt.of_rows hr (fun x hx => by
    rcases List.mem_cons.mp hx with rfl | hx
    · exact h0
    · exact hc x hx)
  rw [List.length_cons, hz, List.map_cons, hf, Nat.add_comm z 1] at hp
  exact ⟨hp, hi, ht⟩
set_option maxRecDepth 100000 in
set_option maxHeartbeats 4000000 in
theorem ins_main (f : Pr) (rest : List Pr) (ni : Nat) (ts : List ByteArray) (l : List Ins) (vp vi vt lv : Value) (w : World) (ht : Pow w) (h0 : Came w vp vi vt (pgOf f rest ni ts)) (hcl : 0 < f.cd.length) (hcap : ∀ q n c, vp = .slice q n c → n ≤ c)
    (hl : CodeAt w lv l) (hl40 : l.length ≤ 40) :
    Calls Tryd.prog 4 #[.agg #[vp, vi, vt], lv] w fun e w' => e = .returned (.bool true) ∧ Ext w w' := by
  have H := Lib.hid h0
  obtain ⟨bp, op, cp, bc, oc, cc, L, rfl, hP⟩ := parts_of h0.lies.ps hcl
  obtain ⟨qi, ci, ei⟩ := h0.lies.is
  obtain ⟨qt, ct, et, _⟩ := h0.lies.ts
  obtain ⟨nt, hnt⟩ : ∃ nt, ts.length = nt := ⟨_, rfl⟩
  simp only [pgOf] at ei et
  rw [hnt] at et
  clear hnt
  subst ei et
  have hzc := hcap _ _ _ rfl
  clear hcap
  have hcp := h0.pr f (List.mem_cons_self ..)
  have hrl : rest.length + 1 ≤ 9223372036854775807 := by simpa using h0.np
  have HP := Lib.hid hP
  have HL := Lib.hid hl
  obtain ⟨ql, cl, rfl, hlx⟩ := hl
  have HX := Lib.hid hlx
  obtain ⟨n, hn⟩ : ∃ n, l.length = n := ⟨_, rfl⟩
  have HN := Lib.hid hn
  obtain ⟨m, hm⟩ : ∃ m, f.cd.length = m := ⟨_, rfl⟩
  obtain ⟨z, hz⟩ : ∃ z, rest.length = z := ⟨_, rfl⟩
  have HM := Lib.hid hm
  have HZ := Lib.hid hz
  have d1 : decide (40 < (n : Int)) = false := decide_eq_false (by omega)
  have d2 : decide (((z + 1 : Nat) : Int) < 1) = false := decide_eq_false (by omega)
  have d3 : decide ((m : Int) < 1) = false := decide_eq_false (by omega)
  have d4 : (0 : Int) < ((z + 1 : Nat) : Int) := by omega
  have c0 := hP.c0
  have c1 := hP.c1
  have c2 := hP.c2
  rw [hm] at c2
  rw [hz, hn]
  rw [hz] at hrl hzc
  clear hn hm hz hlx hP h0
  go_enter Tryd.func4, Tryd.ntmps4
  go_wp2_with fail
  refine (large_came (pgOf f rest ni ts) _ _ _ _ ?_).mono ?_
  rotate_left
  rotate_left
  · rw [← HZ.out]
    exact H.out.ext ((Ext.refl w).alloc _)
  rintro e w1 ⟨b, rfl, e1, hb⟩
  have K1 := Lib.hid (((Ext.refl w).alloc (.cells #[.slice (some ⟨bp, op, none⟩) (z + 1) cp, .slice qi ni ci, .slice qt nt ct] 26)).trans e1)
  have hbk : Blk w1 w.heap.size 26 #[.slice (some ⟨bp, op, none⟩) (z + 1) cp, .slice qi ni ci, .slice qt nt ct] := (Blk.new w _ _).ext e1
  have b0 := hbk.cell 0
  have b1 := hbk.cell 1
  have b2 := hbk.cell 2
  simp only [List.getElem?_toArray, List.getElem?_cons_zero, List.getElem?_cons_succ] at b0 b1 b2
  have HB := Lib.hid hb
  clear e1 hbk hb
  replace c0 := K1.out.cell c0
  replace c1 := K1.out.cell c1
  replace c2 := K1.out.cell c2
  cases b
  rotate_left
  · clear b0 b1 b2 c0 c1 c2
    go_wp2_with fail
    refine (known_any _ (ht.ext K1.out)).mono ?_
    rintro e w2 ⟨rfl, e2⟩
    go_wp2_with fail
    go_ret
    exact ⟨rfl, K1.out.trans e2⟩
  have NL := Lib.hid (HB.out rfl)
  go_wp2_with fail
  go_loopg [5] n (fun g s5 wr => ∃ j : Nat, j + g = n ∧ s5 = .int .i64 j ∧ Ext w1 wr)
  case atStart => exact ⟨0, by omega, rfl, Ext.refl _⟩
  case round =>
    obtain ⟨j, hj, rfl, he⟩ := hrel
    have HE := Lib.hid he
    clear he
    cases gk with
    | zero =>
      obtain rfl : j = n := by omega
      clear b0 b1 b2 c0 c1 c2
      go_wp2_with fail
      refine (known_any _ (ht.ext (K1.out.trans HE.out))).mono ?_
      rintro e w2 ⟨rfl, e2⟩
      go_wp2_with fail
      go_ret
      exact ⟨rfl, (K1.out.trans HE.out).trans e2⟩
    | succ g =>
      have hjn : (j : Int) < (n : Int) := by omega
      have hjl : j < l.length := by rw [HN.out]; omega
      obtain ⟨bl, ol, rfl, hly⟩ := HX.out (by omega)
      have L0 := HE.out.cell (K1.out.cell (hly j hjl).1)
      have L1 := HE.out.cell (K1.out.cell (hly j hjl).2.1)
      have L2 := HE.out.cell (K1.out.cell (hly j hjl).2.2.1)
      have L3 := HE.out.cell (K1.out.cell (hly j hjl).2.2.2)
      obtain ⟨x, hx⟩ : ∃ x, l[j] = x := ⟨_, rfl⟩
      rw [hx] at L0 L1 L2 L3
      clear hx hly
      replace b0 := HE.out.cell b0
      replace b1 := HE.out.cell b1
      replace b2 := HE.out.cell b2
      replace c0 := HE.out.cell c0
      replace c1 := HE.out.cell c1
      replace c2 := HE.out.cell c2
      have lB := cell_lt b0
      have lP := cell_lt c0
      have lL := cell_lt L0
      simp only at lB lP lL
      go_upto_region 7 with fail
      have hm := HM.out
      have hmz : m ≤ 100 := by rw [← hm]; exact NL.out.nc f (List.mem_cons_self ..)
      have hm1 : 1 ≤ m := by omega
      have KR := Lib.hid (K1.out.trans HE.out)
      have F0 : Blk (wr.alloc (.cells #[.int .i64 f.pa, .int .i64 f.rg, .slice (some ⟨bc, oc, none⟩) m cc] 34)) wr.heap.size 34 #[.int .i64 f.pa, .int .i64 f.rg, .slice (some ⟨bc, oc, none⟩) m cc] := Blk.new _ _ _
      have KF := Lib.hid ((Ext.refl wr).alloc (.cells #[.int .i64 f.pa, .int .i64 f.rg, .slice (some ⟨bc, oc, none⟩) m cc] 34))
      generalize (wr.alloc (.cells #[.int .i64 f.pa, .int .i64 f.rg, .slice (some ⟨bc, oc, none⟩) m cc] 34)) = wf at F0 KF ⊢
      go_cut [49] (fun s49 wx => ∃ g c', Ext wr wx ∧ Blk wx wr.heap.size 34 #[.int .i64 f.pa, .int .i64 f.rg, .slice (some ⟨g, 0, none⟩) (1 + m) c'] ∧ RowsAt wx g 0 4 ((x :: f.cd).map rowI) ∧ g ≠ wr.heap.size)
      case first =>
        replace L0 := KF.out.cell L0
        replace L1 := KF.out.cell L1
        replace L2 := KF.out.cell L2
        replace L3 := KF.out.cell L3
        have f2 := F0.cell 2
        simp only [List.getElem?_toArray, List.getElem?_cons_zero, List.getElem?_cons_succ] at f2
        have lF := F0.lt
        have nF0 : ¬ wr.heap.size = wf.heap.size := by omega
        clear b0 b1 b2 c0 c1 c2
        go_region_law (refine step_app rfl (.tmp 46) (.tmp 48) 32 rfl 37 4 32 Tryd.underlying32 info_instr (by decide) wf.heap.size 1 1 (rowI x) (by simp [Act.eval, Act.put]) rfl (new_row wf (rowI x) _) bc oc m cc (f.cd.map rowI).flatten (by simp [Act.eval, Act.put]) (rowI_flat _ hm) (fun j u hu => ((HP.out.code.ext ((KR.out.trans KF.out).alloc _).drew).flat (rowI_len _) hu)) (rowI_one _) (by omega) (by simp only [maxLen]; omega) (by omega) ?_; intro gN c' w' hg hlt hx hcs; have FB := ((F0.alloc _).drew).ext hx; have s1 := FB.cell 2; have s2 := FB.frozen 2)
        all_goals (
          go_wp2_with fail
          go_meet
          have hg' : wf.heap.size < gN := by
            change (wf.alloc _).heap.size ≤ gN at hg
            rw [size_alloc] at hg
            omega
          have nF : gN ≠ wr.heap.size := by omega
          refine ⟨gN, c', ((((KF.out.alloc _).drew).trans hx).setCell (Nat.le_refl _) _), FB.set_ 2 _, RowsAt.far (RowsAt.of_flat (L := (x :: f.cd).map rowI) (rowI_len _) (fun j u hu => hcs j u hu)) nF _, nF⟩)
      case rest =>
        obtain ⟨g7, c7, k7, F7, R7, n7⟩ := hcut
        obtain ⟨wa, rfl⟩ : ∃ wo : World, wo = wc := ⟨_, rfl⟩
        have KC := Lib.hid k7
        replace b0 := k7.cell b0
        replace b1 := k7.cell b1
        replace b2 := k7.cell b2
        clear c0 c1 c2
        replace L0 := k7.cell L0
        replace L1 := k7.cell L1
        replace L2 := k7.cell L2
        replace L3 := k7.cell L3
        have lF := F7.lt
        have lB' := cell_lt b0
        simp only at lB'
        go_upto_region 9 with fail
        have Q0 : Blk (wa.alloc (.cells #[.slice (some ⟨bp, op, none⟩) (z + 1) cp, .slice qi ni ci, .slice qt nt ct] 26)) wa.heap.size 26 #[.slice (some ⟨bp, op, none⟩) (z + 1) cp, .slice qi ni ci, .slice qt nt ct] := Blk.new _ _ _
        have KQ := Lib.hid ((Ext.refl wa).alloc (.cells #[.slice (some ⟨bp, op, none⟩) (z + 1) cp, .slice qi ni ci, .slice qt nt ct] 26))
        generalize (wa.alloc (.cells #[.slice (some ⟨bp, op, none⟩) (z + 1) cp, .slice qi ni ci, .slice qt nt ct] 26)) = wg at Q0 KQ ⊢
        go_cut [57] (fun s57 wx => ∃ gq cq, Ext wa wx ∧ Blk wx wr.heap.size 34 #[.int .i64 f.pa, .int .i64 f.rg, .slice (some ⟨g7, 0, none⟩) (1 + m) c7] ∧ Blk wx wa.heap.size 26 #[.slice (some ⟨gq, 0, none⟩) (1 + z) cq, .slice qi ni ci, .slice qt nt ct]
          ∧ RowsAt wx gq 0 3 (((with0 f (x :: f.cd), .slice (some ⟨g7, 0, none⟩) (1 + m) c7) :: L).map rowP) ∧ gq ≠ wr.heap.size)
        case first =>
          have FB := F7.ext KQ.out
          have f0 := FB.cell 0
          have f1 := FB.cell 1
          have f2 := FB.cell 2
          simp only [List.getElem?_toArray, List.getElem?_cons_zero, List.getElem?_cons_succ] at f0 f1 f2
          replace b0 := KQ.out.cell b0
          clear b1 b2
          have lQ := Q0.lt
          have lF2 := FB.lt
          have hz10 : z ≤ 9 := by have := NL.out.np; simp only [pgOf, List.length_cons, HZ.out] at this; omega
          have nQ : ¬ wa.heap.size = wg.heap.size := by omega
          have hzi : (1 : Int) ≤ (z : Int) + 1 := by omega
          have hzc' : (z : Int) + 1 ≤ (cp : Int) := by omega
          have nF1 : ¬ wr.heap.size = wa.heap.size := by omega
          have nF2 : ¬ w.heap.size = wa.heap.size := by omega
          have nF3 : ¬ wa.heap.size = wr.heap.size := by omega
          have nF4 : ¬ wa.heap.size = w.heap.size := by omega
          have hLz : L.length = z := by rw [← HZ.out, ← HP.out.fsts, List.length_map]
          by_cases h1c : 1 < cp
          · go_region_held3 (fun w' => w'.cell? ⟨wr.heap.size, 0, none⟩ = some (.int .i64 f.pa) ∧ w'.cell? ⟨wr.heap.size, 1, none⟩ = some (.int .i64 f.rg) ∧ w'.cell? ⟨wr.heap.size, 2, none⟩ = some (.slice (some ⟨g7, 0, none⟩) (1 + m) c7) ∧ w'.cell? ⟨w.heap.size, 0, none⟩ = some (.slice (some ⟨bp, op, none⟩) (z + 1) cp))
              (go_keep)
              ((refine step_app0 (by rfl) (.tmp 53) (.tmp 56) 22 (by rfl) 34 3 40 Tryd.underlying22 info_proto (by decide) wg.heap.size 1 1 (rowP (with0 f (x :: f.cd), .slice (some ⟨g7, 0, none⟩) (1 + m) c7)) (by simp [Act.eval, Act.put]) rfl (new_row wg (rowP (with0 f (x :: f.cd), .slice (some ⟨g7, 0, none⟩) (1 + m) c7)) _) bp (op + 3) z (cp - 1) (L.map rowP).flatten (by simp [Act.eval, Act.put]; omega) (rowP_flat L hLz) (fun j u hu => ((HP.out.more.ext (((KR.out.trans KC.out).trans KQ.out).alloc _).drew).flat (rowP_len _) hu)) (rowP_one L HP.out.codes) (by omega) (by show wg.heap.size < (wg.alloc _).heap.size; rw [size_alloc]; omega) (by simp only [maxLen]; omega) (by omega) ?_; intro gN cq w' hg hlt hx hcs; have PB := ((Q0.alloc _).drew).ext hx; have s0 := PB.cell 0; have s1 := PB.frozen 0; have FB2 := ((FB.alloc _).drew).ext hx; have y0 := FB2.cell 0; have y1 := FB2.cell 1; have y2 := FB2.cell 2; have y3 := hx.cell ((((Ext.refl wg).alloc _).drew).cell b0); simp only [List.getElem?_toArray, List.getElem?_cons_zero, List.getElem?_cons_succ] at y0 y1 y2))
            all_goals (
              go_wp2_with fail
              go_meet
              have hg' : wg.heap.size ≤ gN := by
                change _ ∨ (wg.alloc _).heap.size ≤ gN at hg
                rw [size_alloc] at hg
                omega
              have nF : gN ≠ wr.heap.size := by omega
              have nG : gN ≠ wa.heap.size := by omega
              refine ⟨gN, cq, (((KQ.out.alloc _).drew).trans hx).setCell (Nat.le_refl _) _, FB2.far (p := ⟨wa.heap.size, 0, none⟩) nF1 _, by rw [Nat.add_comm 1 z] at *; exact PB.set_ 0 _, RowsAt.far (RowsAt.of_flat (L := List.map rowP ((with0 f (x :: f.cd), Value.slice (some ⟨g7, 0, none⟩) (1 + m) c7) :: L)) (rowP_len _) (fun j u hu => hcs j u hu)) nG _, nF⟩)
          · obtain rfl : 0 = z := by omega
            obtain rfl : 1 = cp := by omega
            obtain rfl : L = [] := List.eq_nil_of_length_eq_zero hLz
            go_region_held3 (fun w' => w'.cell? ⟨wr.heap.size, 0, none⟩ = some (.int .i64 f.pa) ∧ w'.cell? ⟨wr.heap.size, 1, none⟩ = some (.int .i64 f.rg) ∧ w'.cell? ⟨wr.heap.size, 2, none⟩ = some (.slice (some ⟨g7, 0, none⟩) (1 + m) c7) ∧ w'.cell? ⟨w.heap.size, 0, none⟩ = some (.slice (some ⟨bp, op, none⟩) (0 + 1) 1))
              (go_keep)
              ((refine step_app0 (by rfl) (.tmp 53) (.tmp 56) 22 (by rfl) 34 3 40 Tryd.underlying22 info_proto (by decide) wg.heap.size 1 1 (rowP (with0 f (x :: f.cd), .slice (some ⟨g7, 0, none⟩) (1 + m) c7)) (by simp [Act.eval, Act.put]) rfl (new_row wg (rowP (with0 f (x :: f.cd), .slice (some ⟨g7, 0, none⟩) (1 + m) c7)) _) bp op 0 0 [] (by simp [Act.eval, Act.put]) rfl (fun j u hu => by cases hu) (fun u hu => by cases hu) (by omega) (by show wg.heap.size < (wg.alloc _).heap.size; rw [size_alloc]; omega) (by simp only [maxLen]; omega) (by omega) ?_; intro gN cq w' hg hlt hx hcs; have PB := ((Q0.alloc _).drew).ext hx; have s0 := PB.cell 0; have s1 := PB.frozen 0; have FB2 := ((FB.alloc _).drew).ext hx; have y0 := FB2.cell 0; have y1 := FB2.cell 1; have y2 := FB2.cell 2; have y3 := hx.cell ((((Ext.refl wg).alloc _).drew).cell b0); simp only [List.getElem?_toArray, List.getElem?_cons_zero, List.getElem?_cons_succ] at y0 y1 y2))
            all_goals (
              go_wp2_with fail
              go_meet
              have hg' : wg.heap.size ≤ gN := by
                change _ ∨ (wg.alloc _).heap.size ≤ gN at hg
                rw [size_alloc] at hg
                omega
              have nF : gN ≠ wr.heap.size := by omega
              have nG : gN ≠ wa.heap.size := by omega
              refine ⟨gN, cq, (((KQ.out.alloc _).drew).trans hx).setCell (Nat.le_refl _) _, FB2.far (p := ⟨wa.heap.size, 0, none⟩) nF1 _, PB.set_ 0 _, RowsAt.far (RowsAt.of_flat (L := List.map rowP ((with0 f (x :: f.cd), Value.slice (some ⟨g7, 0, none⟩) (1 + m) c7) :: [])) (rowP_len _) (fun j u hu => hcs j u hu)) nG _, nF⟩)
        case rest =>
          obtain ⟨gq, cq, k9, F9, Q9, R9, n9⟩ := hcut
          obtain ⟨wb, rfl⟩ : ∃ wo : World, wo = wc := ⟨_, rfl⟩
          have KC9 := Lib.hid (KC.out.trans k9)
          have R79 := Lib.hid (R7.ext k9)
          have R99 := Lib.hid R9
          replace b0 := k9.cell b0
          replace b1 := k9.cell b1
          replace b2 := k9.cell b2
          replace L0 := k9.cell L0
          replace L1 := k9.cell L1
          replace L2 := k9.cell L2
          replace L3 := k9.cell L3
          have lF9 := F9.lt
          have lQ9 := Q9.lt
          have f0 := F9.cell 0
          have f1 := F9.cell 1
          have f2 := F9.cell 2
          have f3 := F9.frozen 2
          simp only [List.getElem?_toArray, List.getElem?_cons_zero, List.getElem?_cons_succ] at f0 f1 f2
          have nW1 : ¬ w.heap.size = wr.heap.size := by omega
          have nW2 : ¬ wr.heap.size = w.heap.size := by omega
          have nW3 : ¬ wb.heap.size = wr.heap.size := by omega
          have nW4 : ¬ wr.heap.size = wb.heap.size := by omega
          have nW5 : ¬ w.heap.size = wb.heap.size := by omega
          have nW6 : w.heap.size < wb.heap.size := by omega
          clear R7 R9 F7
          go_upto_region 11 with fail
          obtain ⟨whx, hwh⟩ : ∃ W : World, W = (wb.setCell ⟨wr.heap.size, 2, none⟩ (.slice (some ⟨wb.heap.size, 0, none⟩) 1 1)).alloc (.cells #[.int .i64 x.op, .int .i64 x.a, .int .i64 x.b, .int .i64 x.c] 37) := ⟨_, rfl⟩
          have FH : Blk whx wr.heap.size 34 #[.int .i64 f.pa, .int .i64 f.rg, .slice (some ⟨wb.heap.size, 0, none⟩) 1 1] := by rw [hwh]; exact (F9.set_ 2 _).alloc _
          have QH : Blk whx wa.heap.size 26 #[.slice (some ⟨gq, 0, none⟩) (1 + z) cq, .slice qi ni ci, .slice qt nt ct] := by rw [hwh]; exact (Q9.far (p := ⟨wr.heap.size, 2, none⟩) (by show wa.heap.size ≠ wr.heap.size; omega) _).alloc _
          have XH := Lib.hid (show RowsAt whx wb.heap.size 0 4 ([x].map rowI) by rw [hwh]; exact row_after wb _ _ x)
          have RH7 := Lib.hid (show RowsAt whx g7 0 4 ((x :: f.cd).map rowI) by rw [hwh]; exact (R79.out.far (q := ⟨wr.heap.size, 2, none⟩) n7 _).ext ((Ext.refl _).alloc _))
          have RH9 := Lib.hid (show RowsAt whx gq 0 3 (((with0 f (x :: f.cd), .slice (some ⟨g7, 0, none⟩) (1 + m) c7) :: L).map rowP) by rw [hwh]; exact (R99.out.far (q := ⟨wr.heap.size, 2, none⟩) n9 _).ext ((Ext.refl _).alloc _))
          have KH := Lib.hid (show Ext wr whx by rw [hwh]; exact (KC9.out.setCell (Nat.le_refl _) _).alloc _)
          have lWH : wb.heap.size < whx.heap.size := by rw [hwh, size_alloc]; simp [World.setCell]
          rw [← hwh]
          replace b0 : whx.cell? ⟨w.heap.size, 0, none⟩ = some (.slice (some ⟨bp, op, none⟩) (z + 1) cp) := by rw [hwh]; go_simp
          replace b1 : whx.cell? ⟨w.heap.size, 1, none⟩ = some (.slice qi ni ci) := by rw [hwh]; go_simp
          replace b2 : whx.cell? ⟨w.heap.size, 2, none⟩ = some (.slice qt nt ct) := by rw [hwh]; go_simp
          clear L0 L1 L2 L3 f0 f1 f2 f3 nW3 nW4 nW5 nW1 nW2 F9 Q9 hwh
          obtain ⟨wh, rfl⟩ : ∃ wo : World, wo = whx := ⟨_, rfl⟩
          have nW1 : w.heap.size < wh.heap.size := by omega
          have lFH := FH.lt
          go_upto_region 12 with fail
          have O0 : Blk (wh.alloc (.cells #[.slice (some ⟨bp, op, none⟩) (z + 1) cp, .slice qi ni ci, .slice qt nt ct] 26)) wh.heap.size 26 #[.slice (some ⟨bp, op, none⟩) (z + 1) cp, .slice qi ni ci, .slice qt nt ct] := Blk.new _ _ _
          have KI := Lib.hid ((Ext.refl wh).alloc (.cells #[.slice (some ⟨bp, op, none⟩) (z + 1) cp, .slice qi ni ci, .slice qt nt ct] 26))
          generalize (wh.alloc (.cells #[.slice (some ⟨bp, op, none⟩) (z + 1) cp, .slice qi ni ci, .slice qt nt ct] 26)) = wi at O0 KI ⊢
          go_cut [71] (fun s71 wx => ∃ go co, Ext wh wx ∧ Blk wx wh.heap.size 26 #[.slice (some ⟨go, 0, none⟩) (1 + z) co, .slice qi ni ci, .slice qt nt ct]
            ∧ RowsAt wx go 0 3 (((with0 f [x], .slice (some ⟨wb.heap.size, 0, none⟩) 1 1) :: L).map rowP))
          case first =>
            have FI := FH.ext KI.out
            have f0 := FI.cell 0
            have f1 := FI.cell 1
            have f2 := FI.cell 2
            simp only [List.getElem?_toArray, List.getElem?_cons_zero, List.getElem?_cons_succ] at f0 f1 f2
            replace b0 := KI.out.cell b0
            clear b1 b2
            have lO := O0.lt
            have lF2 := FI.lt
            have hz10 : z ≤ 9 := by have := NL.out.np; simp only [pgOf, List.length_cons, HZ.out] at this; omega
            have nO : ¬ wh.heap.size = wi.heap.size := by omega
            have hzi : (1 : Int) ≤ (z : Int) + 1 := by omega
            have hzc' : (z : Int) + 1 ≤ (cp : Int) := by omega
            have nF1 : ¬ wr.heap.size = wh.heap.size := by omega
            have nF2 : ¬ w.heap.size = wh.heap.size := by omega
            have nF3 : ¬ wh.heap.size = wr.heap.size := by omega
            have nF4 : ¬ wh.heap.size = w.heap.size := by omega
            have hLz : L.length = z := by rw [← HZ.out, ← HP.out.fsts, List.length_map]
            by_cases h1c : 1 < cp
            · go_region_held3 (fun w' => w'.cell? ⟨wr.heap.size, 0, none⟩ = some (.int .i64 f.pa) ∧ w'.cell? ⟨wr.heap.size, 1, none⟩ = some (.int .i64 f.rg) ∧ w'.cell? ⟨wr.heap.size, 2, none⟩ = some (.slice (some ⟨wb.heap.size, 0, none⟩) 1 1) ∧ w'.cell? ⟨w.heap.size, 0, none⟩ = some (.slice (some ⟨bp, op, none⟩) (z + 1) cp))
                (go_keep)
                ((refine step_app0 (by rfl) (.tmp 67) (.tmp 70) 22 (by rfl) 34 3 40 Tryd.underlying22 info_proto (by decide) wi.heap.size 1 1 (rowP (with0 f [x], Value.slice (some ⟨wb.heap.size, 0, none⟩) 1 1)) (by simp [Act.eval, Act.put]) rfl (new_row wi (rowP (with0 f [x], Value.slice (some ⟨wb.heap.size, 0, none⟩) 1 1)) _) bp (op + 3) z (cp - 1) (L.map rowP).flatten (by simp [Act.eval, Act.put]; omega) (rowP_flat L hLz) (fun j u hu => ((HP.out.more.ext (((KR.out.trans KH.out).trans KI.out).alloc _).drew).flat (rowP_len _) hu)) (rowP_one L HP.out.codes) (by omega) (by show wi.heap.size < (wi.alloc _).heap.size; rw [size_alloc]; omega) (by simp only [maxLen]; omega) (by omega) ?_; intro gN cn w' hg hlt hx hcs; have PB := ((O0.alloc _).drew).ext hx; have s0 := PB.cell 0; have s1 := PB.frozen 0; have FB2 := ((FI.alloc _).drew).ext hx; have y0 := FB2.cell 0; have y1 := FB2.cell 1; have y2 := FB2.cell 2; have y3 := hx.cell ((((Ext.refl wi).alloc _).drew).cell b0); simp only [List.getElem?_toArray, List.getElem?_cons_zero, List.getElem?_cons_succ] at y0 y1 y2))
              all_goals (
                go_wp2_with fail
                go_meet
                have hg' : wi.heap.size ≤ gN := by
                  change _ ∨ (wi.alloc _).heap.size ≤ gN at hg
                  rw [size_alloc] at hg
                  omega
                have nG : gN ≠ wh.heap.size := by omega
                refine ⟨gN, cn, (((KI.out.alloc _).drew).trans hx).setCell (Nat.le_refl _) _, by rw [Nat.add_comm 1 z] at *; exact PB.set_ 0 _, RowsAt.far (RowsAt.of_flat (L := List.map rowP ((with0 f [x], Value.slice (some ⟨wb.heap.size, 0, none⟩) 1 1) :: L)) (rowP_len _) (fun j u hu => hcs j u hu)) nG _⟩)
            · obtain rfl : 0 = z := by omega
              obtain rfl : 1 = cp := by omega
              obtain rfl : L = [] := List.eq_nil_of_length_eq_zero hLz
              go_region_held3 (fun w' => w'.cell? ⟨wr.heap.size, 0, none⟩ = some (.int .i64 f.pa) ∧ w'.cell? ⟨wr.heap.size, 1, none⟩ = some (.int .i64 f.rg) ∧ w'.cell? ⟨wr.heap.size, 2, none⟩ = some (.slice (some ⟨wb.heap.size, 0, none⟩) 1 1) ∧ w'.cell? ⟨w.heap.size, 0, none⟩ = some (.slice (some ⟨bp, op, none⟩) (0 + 1) 1))
                (go_keep)
                ((refine step_app0 (by rfl) (.tmp 67) (.tmp 70) 22 (by rfl) 34 3 40 Tryd.underlying22 info_proto (by decide) wi.heap.size 1 1 (rowP (with0 f [x], Value.slice (some ⟨wb.heap.size, 0, none⟩) 1 1)) (by simp [Act.eval, Act.put]) rfl (new_row wi (rowP (with0 f [x], Value.slice (some ⟨wb.heap.size, 0, none⟩) 1 1)) _) bp op 0 0 [] (by simp [Act.eval, Act.put]) rfl (fun j u hu => by cases hu) (fun u hu => by cases hu) (by omega) (by show wi.heap.size < (wi.alloc _).heap.size; rw [size_alloc]; omega) (by simp only [maxLen]; omega) (by omega) ?_; intro gN cn w' hg hlt hx hcs; have PB := ((O0.alloc _).drew).ext hx; have s0 := PB.cell 0; have s1 := PB.frozen 0; have FB2 := ((FI.alloc _).drew).ext hx; have y0 := FB2.cell 0; have y1 := FB2.cell 1; have y2 := FB2.cell 2; have y3 := hx.cell ((((Ext.refl wi).alloc _).drew).cell b0); simp only [List.getElem?_toArray, List.getElem?_cons_zero, List.getElem?_cons_succ] at y0 y1 y2))
              all_goals (
                go_wp2_with fail
                go_meet
                have hg' : wi.heap.size ≤ gN := by
                  change _ ∨ (wi.alloc _).heap.size ≤ gN at hg
                  rw [size_alloc] at hg
                  omega
                have nG : gN ≠ wh.heap.size := by omega
                refine ⟨gN, cn, (((KI.out.alloc _).drew).trans hx).setCell (Nat.le_refl _) _, PB.set_ 0 _, RowsAt.far (RowsAt.of_flat (L := List.map rowP ((with0 f [x], Value.slice (some ⟨wb.heap.size, 0, none⟩) 1 1) :: [])) (rowP_len _) (fun j u hu => hcs j u hu)) nG _⟩)
          case rest =>
            obtain ⟨go, co, k12, Q12, R12⟩ := hcut
            have KW := Lib.hid (KH.out.trans k12)
            have hLz : L.length = z := by rw [← HZ.out, ← HP.out.fsts, List.length_map]
            have hcs : ∀ x ∈ L, CodeAt wc x.2 x.1.cd := fun x hx => (HP.out.codes x hx).ext (KR.out.trans KW.out)
            have c7' : CodeAt wc (.slice (some ⟨g7, 0, none⟩) (1 + m) c7) (x :: f.cd) := by
              have := CodeAt.of_rows (c := c7) (RH7.out.ext k12)
              rw [List.length_cons, hm, Nat.add_comm m 1] at this
              exact this
            have c1' : CodeAt wc (.slice (some ⟨wb.heap.size, 0, none⟩) 1 1) [x] := CodeAt.of_rows (c := 1) (XH.out.ext k12)
            have LQ := Lib.hid (lies_with (c := cq) (RH9.out.ext k12) hLz HP.out.fsts c7' hcs H.out.lies.is (H.out.lies.ts.ext (KR.out.trans KW.out)))
            have LO := Lib.hid (lies_with (c := co) R12 hLz HP.out.fsts c1' hcs H.out.lies.is (H.out.lies.ts.ext (KR.out.trans KW.out)))
            have FQ := Lib.hid (few_with NL.out (x :: f.cd) (by rw [List.length_cons, hm]; omega))
            have FO := Lib.hid (few_with NL.out [x] (by simp))
            have SZ := Lib.hid H.out.sz
            obtain ⟨bq, hbq⟩ : ∃ b, chkP (pgOf (with0 f (x :: f.cd)) rest ni ts) = b := ⟨_, rfl⟩
            obtain ⟨bo, hbo⟩ : ∃ b, chkP (pgOf (with0 f [x]) rest ni ts) = b := ⟨_, rfl⟩
            have cQ := fun W (hE : Ext wc W) => chk_v (pgOf (with0 f (x :: f.cd)) rest ni ts) _ _ _ (if bq then 0 else 2) W (by rw [hbq]) (LQ.out.ext hE) FQ.out SZ.out
            have cO := fun W (hE : Ext wc W) => chk_v (pgOf (with0 f [x]) rest ni ts) _ _ _ (if bo then 0 else 2) W (by rw [hbo]) (LO.out.ext hE) FO.out SZ.out
            have rQ := fun W (hE : Ext wc W) => rchk_any (pgOf (with0 f (x :: f.cd)) rest ni ts) _ _ _ bq hbq W (LQ.out.ext hE) FQ.out SZ.out
            have rO := fun W (hE : Ext wc W) => rchk_any (pgOf (with0 f [x]) rest ni ts) _ _ _ bo hbo W (LO.out.ext hE) FO.out SZ.out
            have QW := QH.ext k12
            have q0 := QW.cell 0
            have q1 := QW.cell 1
            have q2 := QW.cell 2
            have o0 := Q12.cell 0
            have o1 := Q12.cell 1
            have o2 := Q12.cell 2
            simp only [List.getElem?_toArray, List.getElem?_cons_zero, List.getElem?_cons_succ] at q0 q1 q2 o0 o1 o2
            have lo := Q12.lt
            have lq := QW.lt
            clear hbq hbo QW Q12 R12 k12 QH FH hcs c7' c1' b0 b1 b2
            cases bq <;> cases bo
            all_goals (
              simp only [Bool.false_eq_true, if_false, if_true] at cQ cO
              go_wp2_with fail
              refine wp_region_ext (by kernel_rfl) (by kernel_rfl) ?_
              repeat (
                first
                  | go_big_quiet_skip
                  | (go_big_quiet_want
                     go_big_quiet_op
                     first
                       | go_big_quiet_on
                       | (apply Exists.intro
                          refine ⟨fun wq hq => ?_, ?_⟩
                          focus (
                            have e1 := (Ext.cells hq).1
                            have e2 := (Ext.cells hq).2
                            first
                              | (first | (go_at_call 9; first | (((with_reducible refine Calls.ext_of hq (rQ _ ?_)); exact hq); done) | (((with_reducible refine Calls.ext_of hq (rO _ ?_)); exact hq); done)) | (go_at_call 8; first | (((with_reducible refine Calls.ext_of hq (cQ _ ?_)); exact hq); done) | (((with_reducible refine Calls.ext_of hq (cO _ ?_)); exact hq); done)); done)
                              | (go_simp; exact rfl))
                          go_big_quiet_on)))
              refine wpQuiet_nil ?_
              intro wz ez
              go_wp2_with fail
              go_roundg g
              case rel => exact ⟨j + 1, by omega, by go_num, HE.out.trans (KW.out.trans ez)⟩
              case measure => exact Nat.lt_succ_self _)
end Go.Proofs.YtifabbjgbfpfbaaDoor
