/- A line added to a program: an instruction. Any line added to a program. -/
import Derived.Test.YtfjipoijbmmjcaaGreatDoorYB5
namespace Go.Proofs.YtfjipoijbmmjcaaGreatDoor
open Go.RowKit
set_option linter.unusedVariables false
set_option linter.unusedSimpArgs false

theorem four_ints {l : List Int} (h : l.length = 4) : ∃ a b c d, l = [a, b, c, d] := by
 match l, h with
 | [a, b, c, d], _ => exact ⟨a, b, c, d, rfl⟩
theorem own_four {w : World} {B c : Nat} {q : Option Addr} {x0 x1 x2 x3 : Int} (h : OwnN w B (.slice q 4 c) [x0, x1, x2, x3]) : ∃ g, q = some ⟨g, 0, none⟩ ∧ w.cell? ⟨g, 0, none⟩ = some (.int .i64 x0) ∧ w.cell? ⟨g, 1, none⟩ = some (.int .i64 x1) ∧ w.cell? ⟨g, 2, none⟩ = some (.int .i64 x2) ∧ w.cell? ⟨g, 3, none⟩ = some (.int .i64 x3) ∧ ∃ cur, Blk w g 3 cur := by
 rcases h.2 with ⟨e, _⟩ | ⟨g, cap, cur, e, _, hh, _⟩
 ·simp at e
 ·simp only [Value.slice.injEq] at e
  obtain ⟨rfl, _, rfl⟩ := e
  exact ⟨g, rfl, h.cellAt 0 (by simp), h.cellAt 1 (by simp), h.cellAt 2 (by simp), h.cellAt 3 (by simp), cur, hh⟩
theorem row_slice0 {w : World} {B sz : Nat} {e : TypeId} {v : Value} {xs : List Value} (h : w.ownsRow B e sz v 0 xs) : ∃ q c, v = .slice q 0 c := by
 rcases h.2 with ⟨rfl, _⟩ | ⟨g, cap, cur, rfl, _⟩
 ·exact ⟨none, 0, rfl⟩
 ·exact ⟨_, _, rfl⟩
theorem row_slice1 {w : World} {B sz : Nat} {e : TypeId} {v : Value} {xs : List Value} {l : List (Pr × Value)} {x : Pr × Value} (h : w.ownsRow B e sz v (l ++ [x]).length xs) : ∃ g c, v = .slice (some ⟨g, 0, none⟩) (l.length + 1) c := by
 rcases h.2 with ⟨_, h0⟩ | ⟨g, cap, cur, rfl, _⟩
 ·simp at h0
 ·exact ⟨g, cap, by simp⟩
set_option maxRecDepth 100000 in
set_option maxHeartbeats 8000000 in
theorem add_ins (w : World) (hL : LLaid w) (B g : Nat) (s : ByteArray) (hs : s.size ≤ 4194304) (cs : List (Pr × Value)) (is : List Int) (ts : List ByteArray) (vp vi vt : Value) (hP : OwnPg w B g cs is ts vp vi vt) (hB : B ≤ w.heap.size)
  (hn1 : cs.length ≤ 100000) (hn2 : is.length ≤ 100000) (hn3 : ts.length ≤ 100000) (hn4 : ∀ c ∈ cs, c.1.cd.length ≤ 100000) (l0 : ByteArray) (L : List ByteArray) (hpc : pieces s = l0 :: L) (h1 : l0 ≠ sFunc) (h2 : l0 ≠ sIw) (h3 : l0 ≠ sTw) :
  Calls Tryz.prog 23 #[.pointer (some ⟨g, 0, none⟩), .string s] w (AddE w B g s cs is ts) := by
 obtain ⟨mm, hmm⟩ := hL.mx
 have cSp := Tryz.strings_Split s ⟨#[32]⟩ mm w (by omega) hmm (by decide)
 have hlen := pieces_len s
 have hpl := pieces_le s
 rw [hpc] at hlen hpl
 have hpc' : Lib.splitB ⟨#[32]⟩ 0 (Lib.countB s ⟨#[32]⟩) s = l0 :: L := hpc
 have hlen' : Lib.countB s ⟨#[32]⟩ = L.length := by
  have : L.length + 1 = Lib.countB s ⟨#[32]⟩ + 1 := hlen
  omega
 rw [hpc', hlen'] at cSp
 have hLs : L.length ≤ 4194304 := by
  have h6 := Lib.countB_le spB (by decide) s.size s (Nat.le_refl _)
  have h7 : Lib.countB s spB = L.length := hlen'
  omega
 have HLS := Lib.hid hLs
 have HPL := Lib.hid hpl
 have HPC := Lib.hid hpc
 have HT := Lib.hid (texts_new w (l0 :: L))
 have HL := Lib.hid (hL.ext ((Ext.refl w).alloc (.cells ((l0 :: L).map Value.string).toArray 9)))
 have HP := Lib.hid (hP.ext ((Ext.refl w).alloc (.cells ((l0 :: L).map Value.string).toArray 9)))
 have E0 := Lib.hid ((Ext.refl w).alloc (.cells ((l0 :: L).map Value.string).toArray 9))
 have HBW := Lib.hid hB
 have HS := Lib.hid hs
 have HN1 := Lib.hid hn1
 have HN2 := Lib.hid hn2
 have HN3 := Lib.hid hn3
 have HN4 := Lib.hid hn4
 obtain ⟨n, hn⟩ : ∃ n, L.length = n := ⟨_, rfl⟩
 have hnI : (n : Int) ≤ 4194304 := by omega
 rw [hn] at cSp
 have HN := Lib.hid hn
 clear hL hlen hpl hpc hpc' hlen' hLs hP hB hs hn1 hn2 hn3 hn4 hn hmm
 go_enter Tryz.func23, Tryz.ntmps23
 go_wp2_with fail
 refine cSp.mono ?_
 clear cSp
 rintro e w1 ⟨rfl, rfl⟩
 obtain ⟨W1, hW1⟩ : ∃ W, w.alloc (.cells ((l0 :: L).map Value.string).toArray 9) = W := ⟨_, rfl⟩
 obtain ⟨b, hb⟩ : ∃ b, w.heap.size = b := ⟨_, rfl⟩
 rw [hW1] at HT HL HP E0 ⊢
 rw [hb] at HT ⊢
 clear hW1
 have HB1 : Hid (B ≤ W1.heap.size) := Lib.hid (Nat.le_trans HBW.out E0.out.le)
 have c0 : W1.cell? ⟨b, 0, none⟩ = some (.string l0) := by
  obtain ⟨q, c, e, hx⟩ := HT.out
  obtain ⟨b2, o2, e2, hx⟩ := hx (by simp)
  injection e with e
  rw [e2] at e
  injection e with e
  injection e with e3 e4
  subst e3 e4
  exact hx 0 (by simp)
 have hbl := cell_lt c0
 simp only at hbl
 have q1 : (l0.toList == [102, 117, 110, 99]) = false := by rw [beq_eq_false_iff_ne, Lib.toList_data]; intro h; exact h1 (by apply ByteArray.ext; exact Array.toList_inj.1 (h.trans rfl))
 have q2 : (l0.toList == [105, 110, 116]) = false := by rw [beq_eq_false_iff_ne, Lib.toList_data]; intro h; exact h2 (by apply ByteArray.ext; exact Array.toList_inj.1 (h.trans rfl))
 have q3 : (l0.toList == [116, 101, 120, 116]) = false := by rw [beq_eq_false_iff_ne, Lib.toList_data]; intro h; exact h3 (by apply ByteArray.ext; exact Array.toList_inj.1 (h.trans rfl))
 have H1 := Lib.hid (And.intro h1 (And.intro h2 h3))
 clear h1 h2 h3
 have cN := Lib.hid (numbers_any (l0 :: L) _ W1 HL.out HT.out (by have := HLS.out; simp; omega) (fun x hx => by
   have h1 := HPL.out x hx
   have h2 := HS.out
   omega))
 go_wp2_with fail
 have CC := cN.out
 simp only [List.length_cons, HN.out] at CC
 refine CC.mono ?_
 clear CC cN
 rintro e w2 ⟨v2, ok2, rfl, e2, HH⟩
 have E2 := Lib.hid e2
 have HP2 := Lib.hid (HP.out.ext e2)
 have HB2 : Hid (B ≤ w2.heap.size) := Lib.hid (Nat.le_trans HB1.out e2.le)
 clear e2 q1 q2 q3
 rcases HH.out with ⟨rfl, ns, hm, hi64, hown⟩ | ⟨rfl, rfl, x, hx, hxn⟩
 case inr =>
  have HR := Lib.hid (AddR.ins_no (ps := cs.map (·.1)) (is := is) (ts := ts) HPC.out H1.out.1 H1.out.2.1 H1.out.2.2 (.inr (fun o a b c h => nomap hx hxn h)))
  clear hx hxn HH
  go_wp2_with fail
  go_ret
  exact ⟨_, _, _, _, _, _, _, rfl, HP2.out, Turn.of_ext (E0.out.trans E2.out), HR⟩
 case inl =>
  obtain ⟨q, c, rfl⟩ := OwnN.slice hown
  have HM := Lib.hid hm
  have HI := Lib.hid hi64
  have HO := Lib.hid hown
  clear hm hi64 hown HH
  obtain ⟨m2, hm2⟩ : ∃ m, ns.length = m := ⟨_, rfl⟩
  rw [hm2] at HO ⊢
  have HM2 := Lib.hid hm2
  clear hm2
  by_cases h2 : m2 = 4
  case neg =>
   have t1 : ((m2 : Int) == 4) = false := by rw [beq_eq_false_iff_ne]; omega
   have t2 : ((m2 : Int) != 4) = true := by simp; omega
   have HR := Lib.hid (AddR.ins_no (ps := cs.map (·.1)) (is := is) (ts := ts) HPC.out H1.out.1 H1.out.2.1 H1.out.2.2 (.inr (fun o a b c h => by
    have := congrArg List.length (HM.out.symm.trans h)
    rw [List.length_map, HM2.out] at this
    exact h2 this)))
   have H2 := Lib.hid h2
   clear h2
   go_wp2_with fail
   go_ret
   exact ⟨_, _, _, _, _, _, _, rfl, HP2.out, Turn.of_ext (E0.out.trans E2.out), HR⟩
  case pos =>
   subst h2
   obtain ⟨x0, x1, x2, x3, rfl⟩ : ∃ a b c d, ns = [a, b, c, d] := four_ints HM2.out
   obtain ⟨bn, rfl, n0, n1, n2, n3, cur, hbn⟩ := own_four HO.out
   have hd1 : ¬ bn = g := fun e => by subst e; exact absurd (blk_same hbn HP2.out.blk) (by decide)
   have hd2 : ¬ g = bn := fun e => hd1 e.symm
   have g0 := HP2.out.blk.cell 0
   have f0 := HP2.out.blk.frozen 0
   have gl := HP2.out.blk.lt
   have nl := cell_lt n0
   simp only [List.getElem?_toArray, List.getElem?_cons_zero] at g0 nl
   rcases List.eq_nil_or_concat cs with hcs | ⟨cs0, cl, hcs⟩
   ·subst hcs
    obtain ⟨q4, c4, hvp⟩ : ∃ q c, vp = .slice q 0 c := row_slice0 HP2.out.ps
    subst hvp
    have HR := Lib.hid (AddR.ins_no (ps := []) (is := is) (ts := ts) HPC.out H1.out.1 H1.out.2.1 H1.out.2.2 (.inl rfl))
    go_wp2_with fail
    go_ret
    exact ⟨_, _, _, _, _, _, _, rfl, HP2.out, Turn.of_ext (E0.out.trans E2.out), HR⟩
   ·rw [List.concat_eq_append] at hcs
    subst hcs
    obtain ⟨f, cv⟩ := cl
    obtain ⟨gp, cap, hvp⟩ : ∃ gp cap, vp = .slice (some ⟨gp, 0, none⟩) (cs0.length + 1) cap := row_slice1 HP2.out.ps
    subst hvp
    obtain ⟨K, hK⟩ : ∃ K, cs0.length = K := ⟨_, rfl⟩
    have hK1 : K ≤ 100000 := by have := HN1.out; rw [List.length_append, hK] at this; simp at this; omega
    rw [hK] at g0
    have HKK := Lib.hid hK
    clear hK
    have t1 : (((K : Int) + 1) == 0) = false := by rw [beq_eq_false_iff_ne]; omega
    have k0 : (0 : Int) ≤ (K : Int) := by omega
    have kI : (K : Int) ≤ 100000 := by omega
    have hwr : IntKind.i64.wrap ((K : Int) + 1 - 1) = (K : Int) := by rw [show (K : Int) + 1 - 1 = (K : Int) by omega]; exact IntWalk.i64_in _ (by omega)
    have hwr2 : IntKind.i64.wrap (K : Int) = (K : Int) := IntWalk.i64_in _ (by omega)
    have kI2 : (K : Int) < (K : Int) + 1 := by omega
    have kI3 : K < K + 1 := by omega
    have hsb : (K : Int) + 1 - 1 = (K : Int) := by omega
    go_wp2_with fail
    go_region_held3 (fun w' => w'.cell? ⟨g, 0, none⟩ = some (.slice (some ⟨gp, 0, none⟩) (K + 1) cap)) (go_keep) (fail)
    all_goals go_wp2_with fail
    obtain ⟨w4, hw4⟩ : ∃ w', w2.drew = w' := ⟨_, rfl⟩
    have E4 := Lib.hid (E2.out.drew)
    have HP4 := Lib.hid (HP2.out.ext ((Ext.refl w2).drew))
    have HB4 : Hid (B ≤ w2.drew.heap.size) := Lib.hid HB2.out
    have hbn4 : Blk w2.drew bn 3 cur := hbn
    have p0 : w2.drew.cell? ⟨bn, 0, none⟩ = some (.int .i64 x0) := n0
    have p1 : w2.drew.cell? ⟨bn, 1, none⟩ = some (.int .i64 x1) := n1
    have p2 : w2.drew.cell? ⟨bn, 2, none⟩ = some (.int .i64 x2) := n2
    have p3 : w2.drew.cell? ⟨bn, 3, none⟩ = some (.int .i64 x3) := n3
    rw [hw4] at E4 HP4 HB4 hbn4 p0 p1 p2 p3 ⊢
    clear hw4 n0 n1 n2 n3 hbn g0 f0 gl nl t1 hwr hwr2 hsb
    obtain ⟨v', w5, hrun, hown5, htrn5, hgr5, ⟨cur5, hgp5⟩, hc5⟩ := OwnPg.ins (HP4.out.ext (((Ext.refl w4).alloc (.cells #[.int .i64 x0, .int .i64 x1, .int .i64 x2, .int .i64 x3] 42)).drew)) w4.heap.size ⟨x0, x1, x2, x3⟩ (Blk.new w4 _ _).drew 37 (Nat.le_trans HB4.out (((Ext.refl w4).alloc (.cells #[.int .i64 x0, .int .i64 x1, .int .i64 x2, .int .i64 x3] 42)).drew).le) (by have := HN4.out (f, cv) (by simp); simp only at this; omega)
    obtain ⟨q3, m3, c3, rfl⟩ := row_slice (hown5.cd (⟨f.pa, f.rg, f.cd ++ [⟨x0, x1, x2, x3⟩]⟩, v') (by simp))
    have hcv := HP4.out.cd (f, cv) (by simp)
    simp only at hcv
    obtain ⟨q5, m5, c5, rfl⟩ := row_slice hcv
    have hps := HP4.out.ps
    have hcell := hps
    rw [List.length_append, HKK.out] at hcell
    have hg4 := World.ownsRow.cellAt hcell (K * 3 + 2) (by omega)
    have hget : ((cs0 ++ [(f, Value.slice q5 m5 c5)]).flatMap prC)[K * 3 + 2]? = some (.slice q5 m5 c5) := by
     rw [← HKK.out, List.flatMap_append, List.getElem?_append_right (by rw [prC_len]; omega), prC_len]
     have : cs0.length * 3 + 2 - cs0.length * 3 = 2 := by omega
     rw [this]
     rfl
    rw [hget] at hg4
    rw [HKK.out] at hown5 htrn5 hc5
    have hbn5 := blk_grown (hbn4.ext (((Ext.refl w4).alloc (.cells #[.int .i64 x0, .int .i64 x1, .int .i64 x2, .int .i64 x3] 42)).drew)) (own_ext hcv (((Ext.refl w4).alloc (.cells #[.int .i64 x0, .int .i64 x1, .int .i64 x2, .int .i64 x3] 42)).drew)) (by decide) hgr5
    have m0 := cell_same hbn4 hbn5 p0
    have m1 := cell_same hbn4 hbn5 p1
    have m2 := cell_same hbn4 hbn5 p2
    have m3' := cell_same hbn4 hbn5 p3
    have hf5 := hgp5.frozen (K * 3 + 2)
    have hl5 := hgp5.lt
    have hd3 : ¬ bn = gp := fun e => by subst e; exact absurd (blk_same hbn5 hgp5) (by decide)
    have hd4 : ¬ gp = bn := fun e => hd3 e.symm
    have gl4 := cell_lt hg4
    have nl4 := hbn4.lt
    have nl5 := hbn5.lt
    simp only at gl4
    have HRUN := Lib.hid hrun
    have HO5 := Lib.hid hown5
    have HT5 := Lib.hid ((Turn.of_ext (B := B) (g := g) ((E0.out.trans E4.out).trans (((Ext.refl w4).alloc (.cells #[.int .i64 x0, .int .i64 x1, .int .i64 x2, .int .i64 x3] 42)).drew))).trans htrn5)
    have HR := Lib.hid (AddR.ins_yes (ps0 := cs0.map (·.1)) (f := f) (is := is) (ts := ts) (i := ⟨x0, x1, x2, x3⟩) HPC.out H1.out.1 H1.out.2.1 H1.out.2.2 (by rw [HM.out]; rfl) ⟨HI.out x0 (by simp), HI.out x1 (by simp), HI.out x2 (by simp), HI.out x3 (by simp)⟩)
    clear hrun hown5 htrn5 hgr5 hgp5 hcv hps hcell hget hbn4 hbn5
    go_upto_region 25 with (fail)
    go_cut [148] (fun _ wx => ∃ v', Hid (OwnPg wx B g (cs0 ++ [((⟨f.pa, f.rg, f.cd ++ [⟨x0, x1, x2, x3⟩]⟩ : Pr), v')]) is ts (.slice (some ⟨gp, 0, none⟩) (K + 1) cap) vi vt ∧ Turn B g w wx))
    case first =>
     refine wp_region_held_drew (S := (fun w' => w'.cell? ⟨bn, 0, none⟩ = some (.int .i64 x0) ∧ w'.cell? ⟨bn, 1, none⟩ = some (.int .i64 x1) ∧ w'.cell? ⟨bn, 2, none⟩ = some (.int .i64 x2) ∧ w'.cell? ⟨bn, 3, none⟩ = some (.int .i64 x3))) (by kernel_rfl) ?_ (fun hHeld => ?_)
     focus (
      (try dsimp only)
      go_keep)
     refine wpAnyH_take (i := 0) (oi := _) (v := ?_) rfl (by kernel_rfl) (by kernel_rfl) (by kernel_rfl) (fun _ _ _ h => h) (Or.inl ⟨by rfl, ?_⟩) (by assumption) ?_
     rotate_left
     focus (
      intro w hSw
      (try dsimp only at hSw)
      go_simp
      try with_reducible rfl)
     (try simp only [Act.put, List.setIfInBounds_toArray, List.set_cons_zero, List.set_cons_succ])
     refine wpAnyH_take (i := 1) (oi := _) (v := ?_) rfl (by kernel_rfl) (by kernel_rfl) (by kernel_rfl) (fun _ _ _ h => h) (Or.inl ⟨by rfl, ?_⟩) (by assumption) ?_
     rotate_left
     focus (
      intro w hSw
      (try dsimp only at hSw)
      go_simp
      try with_reducible rfl)
     (try simp only [Act.put, List.setIfInBounds_toArray, List.set_cons_zero, List.set_cons_succ])
     refine wpAnyH_take (i := 2) (oi := _) (v := ?_) rfl (by kernel_rfl) (by kernel_rfl) (by kernel_rfl) (fun _ _ _ h => h) (Or.inl ⟨by rfl, ?_⟩) (by assumption) ?_
     rotate_left
     focus (
      intro w hSw
      (try dsimp only at hSw)
      go_simp
      try with_reducible rfl)
     (try simp only [Act.put, List.setIfInBounds_toArray, List.set_cons_zero, List.set_cons_succ])
     refine wpAnyH_take (i := 3) (oi := _) (v := ?_) rfl (by kernel_rfl) (by kernel_rfl) (by kernel_rfl) (fun _ _ _ h => h) (Or.inl ⟨by rfl, ?_⟩) (by assumption) ?_
     rotate_left
     focus (
      intro w hSw
      (try dsimp only at hSw)
      go_simp
      try with_reducible rfl)
     (try simp only [Act.put, List.setIfInBounds_toArray, List.set_cons_zero, List.set_cons_succ])
     refine wpAnyH_take (i := 5) (oi := _) (v := ?_) rfl (by kernel_rfl) (by kernel_rfl) (by kernel_rfl) (fun _ _ _ h => h) (Or.inl ⟨by rfl, ?_⟩) (by assumption) ?_
     rotate_left
     focus (
      intro w hSw
      (try dsimp only at hSw)
      go_simp
      try with_reducible rfl)
     (try simp only [Act.put, List.setIfInBounds_toArray, List.set_cons_zero, List.set_cons_succ])
     refine wpAnyH_take (i := 6) (oi := _) (v := ?_) rfl (by kernel_rfl) (by kernel_rfl) (by kernel_rfl) (fun _ _ _ h => h) (Or.inl ⟨by rfl, ?_⟩) (by assumption) ?_
     rotate_left
     focus (
      intro w hSw
      (try dsimp only at hSw)
      go_simp
      try with_reducible rfl)
     (try simp only [Act.put, List.setIfInBounds_toArray, List.set_cons_zero, List.set_cons_succ])
     refine wpAnyH_take (i := 7) (oi := _) (v := ?_) rfl (by kernel_rfl) (by kernel_rfl) (by kernel_rfl) (fun _ _ _ h => h) (Or.inl ⟨by rfl, ?_⟩) (by assumption) ?_
     rotate_left
     focus (
      intro w hSw
      (try dsimp only at hSw)
      go_simp
      try with_reducible rfl)
     (try simp only [Act.put, List.setIfInBounds_toArray, List.set_cons_zero, List.set_cons_succ])
     refine wpAnyH_take (i := 8) (oi := _) (v := ?_) rfl (by kernel_rfl) (by kernel_rfl) (by kernel_rfl) (fun _ _ _ h => h) (Or.inl ⟨by rfl, ?_⟩) (by assumption) ?_
     rotate_left
     focus (
      intro w hSw
      (try dsimp only at hSw)
      go_simp
      try with_reducible rfl)
     (try simp only [Act.put, List.setIfInBounds_toArray, List.set_cons_zero, List.set_cons_succ])
     refine wpAnyH_take (i := 9) (oi := _) (v := ?_) rfl (by kernel_rfl) (by kernel_rfl) (by kernel_rfl) (fun _ _ _ h => h) (Or.inl ⟨by rfl, ?_⟩) (by assumption) ?_
     rotate_left
     focus (
      intro w hSw
      (try dsimp only at hSw)
      go_simp
      try with_reducible rfl)
     (try simp only [Act.put, List.setIfInBounds_toArray, List.set_cons_zero, List.set_cons_succ])
     refine wpAnyH_take (i := 10) (oi := _) (v := ?_) rfl (by kernel_rfl) (by kernel_rfl) (by kernel_rfl) (fun _ _ _ h => h) (Or.inl ⟨by rfl, ?_⟩) (by assumption) ?_
     rotate_left
     focus (
      intro w hSw
      (try dsimp only at hSw)
      go_simp
      try with_reducible rfl)
     (try simp only [Act.put, List.setIfInBounds_toArray, List.set_cons_zero, List.set_cons_succ])
     refine wpAnyH_take (i := 11) (oi := _) (v := ?_) rfl (by kernel_rfl) (by kernel_rfl) (by kernel_rfl) (fun _ _ _ h => h) (Or.inl ⟨by rfl, ?_⟩) (by assumption) ?_
     rotate_left
     focus (
      intro w hSw
      (try dsimp only at hSw)
      go_simp
      try with_reducible rfl)
     (try simp only [Act.put, List.setIfInBounds_toArray, List.set_cons_zero, List.set_cons_succ])
     refine wpAnyH_take (i := 12) (oi := _) (v := ?_) rfl (by kernel_rfl) (by kernel_rfl) (by kernel_rfl) (fun _ _ _ h => h) (Or.inl ⟨by rfl, ?_⟩) (by assumption) ?_
     rotate_left
     focus (
      intro w hSw
      (try dsimp only at hSw)
      go_simp
      try with_reducible rfl)
     (try simp only [Act.put, List.setIfInBounds_toArray, List.set_cons_zero, List.set_cons_succ])
     refine wpAnyH_take (i := 13) (oi := _) (v := ?_) rfl (by kernel_rfl) (by kernel_rfl) (by kernel_rfl) (fun _ _ _ h => h) (Or.inl ⟨by rfl, ?_⟩) (by assumption) ?_
     rotate_left
     focus (
      intro w hSw
      (try dsimp only at hSw)
      go_simp
      try with_reducible rfl)
     (try simp only [Act.put, List.setIfInBounds_toArray, List.set_cons_zero, List.set_cons_succ])
     refine wpAnyH_take (i := 14) (oi := _) (v := ?_) rfl (by kernel_rfl) (by kernel_rfl) (by kernel_rfl) (fun _ _ _ h => h) (Or.inl ⟨by rfl, ?_⟩) (by assumption) ?_
     rotate_left
     focus (
      intro w hSw
      (try dsimp only at hSw)
      go_simp
      try with_reducible rfl)
     (try simp only [Act.put, List.setIfInBounds_toArray, List.set_cons_zero, List.set_cons_succ])
     refine wpAnyH_take (i := 15) (oi := _) (v := ?_) rfl (by kernel_rfl) (by kernel_rfl) (by kernel_rfl) (fun _ _ _ h => h) (Or.inl ⟨by rfl, ?_⟩) (by assumption) ?_
     rotate_left
     focus (
      intro w hSw
      (try dsimp only at hSw)
      go_simp
      try with_reducible rfl)
     (try simp only [Act.put, List.setIfInBounds_toArray, List.set_cons_zero, List.set_cons_succ])
     refine wpAnyH_take (i := 16) (oi := _) (v := ?_) rfl (by kernel_rfl) (by kernel_rfl) (by kernel_rfl) (fun _ _ _ h => h) (Or.inl ⟨by rfl, ?_⟩) (by assumption) ?_
     rotate_left
     focus (
      intro w hSw
      (try dsimp only at hSw)
      go_simp
      try with_reducible rfl)
     (try simp only [Act.put, List.setIfInBounds_toArray, List.set_cons_zero, List.set_cons_succ])
     refine wpAnyH_take (i := 17) (oi := _) (v := ?_) rfl (by kernel_rfl) (by kernel_rfl) (by kernel_rfl) (fun _ _ _ h => h) (Or.inl ⟨by rfl, ?_⟩) (by assumption) ?_
     rotate_left
     focus (
      intro w hSw
      (try dsimp only at hSw)
      go_simp
      try with_reducible rfl)
     (try simp only [Act.put, List.setIfInBounds_toArray, List.set_cons_zero, List.set_cons_succ])
     refine wpAnyH_ready (rs := [4, 18]) (by kernel_rfl) (by simp) ?_
     refine AllReadyH.cons (o := _) rfl (fun K hK => ?_) (AllReadyH.cons (o := _) rfl (fun K hK => ?_) AllReadyH.nil)
     focus (
      go_simp
      refine hK.out _ _ ?_ (fun hHeld => ?_)
      focus (
       (try dsimp only)
       go_keep)
      clear hK K
      (try simp only [Act.put, List.setIfInBounds_toArray, List.set_cons_zero, List.set_cons_succ])
      refine wpAnyH_ready (rs := [18]) (by kernel_rfl) (by simp) ?_
      refine AllReadyH.cons (o := _) rfl (fun K hK => ?_) AllReadyH.nil
      go_simp
      refine hK.out _ _ ?_ (fun hHeld => ?_)
      focus (
       (try dsimp only)
       go_keep)
      clear hK K
      (try simp only [Act.put, List.setIfInBounds_toArray, List.set_cons_zero, List.set_cons_succ])
      refine wpAnyH_ready (rs := [19]) (by kernel_rfl) (by simp) ?_
      refine AllReadyH.cons (o := _) rfl (fun K hK => ?_) AllReadyH.nil
      refine step_append_run rfl _ _ 37 rfl _ _ _ _ rfl rfl HRUN.out ?_
      refine hK.out _ _ ?_ (fun hHeld => ?_)
      focus (
       (try dsimp only)
       go_keep)
      clear hK K
      (try simp only [Act.put, List.setIfInBounds_toArray, List.set_cons_zero, List.set_cons_succ])
      refine wpAnyH_take (i := 20) (oi := _) (v := ?_) rfl (by kernel_rfl) (by kernel_rfl) (by kernel_rfl) (fun _ _ _ h => h) (Or.inl ⟨by rfl, ?_⟩) (by assumption) ?_
      rotate_left
      focus (
       intro w hSw
       (try dsimp only at hSw)
       go_simp
       try with_reducible rfl)
      (try simp only [Act.put, List.setIfInBounds_toArray, List.set_cons_zero, List.set_cons_succ])
      refine wpAnyH_take (i := 21) (oi := _) (v := ?_) rfl (by kernel_rfl) (by kernel_rfl) (by kernel_rfl) (fun _ _ _ h => h) (Or.inl ⟨by rfl, ?_⟩) (by assumption) ?_
      rotate_left
      focus (
       intro w hSw
       (try dsimp only at hSw)
       go_simp
       try with_reducible rfl)
      (try simp only [Act.put, List.setIfInBounds_toArray, List.set_cons_zero, List.set_cons_succ])
      refine wpAnyH_ready (rs := [22]) (by kernel_rfl) (by simp) ?_
      refine AllReadyH.cons (o := _) rfl (fun K hK => ?_) AllReadyH.nil
      go_simp
      refine hK.out _ _ ?_ (fun hHeld => ?_)
      focus (
       (try dsimp only)
       go_keep)
      clear hK K
      (try simp only [Act.put, List.setIfInBounds_toArray, List.set_cons_zero, List.set_cons_succ])
      refine wpAnyH_done (by kernel_rfl) ?_ _
      go_wp2_with fail
      go_meet
      exact ⟨_, Lib.hid ⟨HO5.out, HT5.out⟩⟩)
     focus (
      go_simp
      refine hK.out _ _ ?_ (fun hHeld => ?_)
      focus (
       (try dsimp only)
       go_keep)
      clear hK K
      (try simp only [Act.put, List.setIfInBounds_toArray, List.set_cons_zero, List.set_cons_succ])
      refine wpAnyH_ready (rs := [4]) (by kernel_rfl) (by simp) ?_
      refine AllReadyH.cons (o := _) rfl (fun K hK => ?_) AllReadyH.nil
      go_simp
      refine hK.out _ _ ?_ (fun hHeld => ?_)
      focus (
       (try dsimp only)
       go_keep)
      clear hK K
      (try simp only [Act.put, List.setIfInBounds_toArray, List.set_cons_zero, List.set_cons_succ])
      refine wpAnyH_ready (rs := [19]) (by kernel_rfl) (by simp) ?_
      refine AllReadyH.cons (o := _) rfl (fun K hK => ?_) AllReadyH.nil
      refine step_append_run rfl _ _ 37 rfl _ _ _ _ rfl rfl HRUN.out ?_
      refine hK.out _ _ ?_ (fun hHeld => ?_)
      focus (
       (try dsimp only)
       go_keep)
      clear hK K
      (try simp only [Act.put, List.setIfInBounds_toArray, List.set_cons_zero, List.set_cons_succ])
      refine wpAnyH_take (i := 20) (oi := _) (v := ?_) rfl (by kernel_rfl) (by kernel_rfl) (by kernel_rfl) (fun _ _ _ h => h) (Or.inl ⟨by rfl, ?_⟩) (by assumption) ?_
      rotate_left
      focus (
       intro w hSw
       (try dsimp only at hSw)
       go_simp
       try with_reducible rfl)
      (try simp only [Act.put, List.setIfInBounds_toArray, List.set_cons_zero, List.set_cons_succ])
      refine wpAnyH_take (i := 21) (oi := _) (v := ?_) rfl (by kernel_rfl) (by kernel_rfl) (by kernel_rfl) (fun _ _ _ h => h) (Or.inl ⟨by rfl, ?_⟩) (by assumption) ?_
      rotate_left
      focus (
       intro w hSw
       (try dsimp only at hSw)
       go_simp
       try with_reducible rfl)
      (try simp only [Act.put, List.setIfInBounds_toArray, List.set_cons_zero, List.set_cons_succ])
      refine wpAnyH_ready (rs := [22]) (by kernel_rfl) (by simp) ?_
      refine AllReadyH.cons (o := _) rfl (fun K hK => ?_) AllReadyH.nil
      go_simp
      refine hK.out _ _ ?_ (fun hHeld => ?_)
      focus (
       (try dsimp only)
       go_keep)
      clear hK K
      (try simp only [Act.put, List.setIfInBounds_toArray, List.set_cons_zero, List.set_cons_succ])
      refine wpAnyH_done (by kernel_rfl) ?_ _
      go_wp2_with fail
      go_meet
      exact ⟨_, Lib.hid ⟨HO5.out, HT5.out⟩⟩)
    case rest =>
    obtain ⟨v', HC⟩ := hcut
    clear p0 p1 p2 p3 m0 m1 m2 m3' hf5 hl5 hd3 hd4 gl4 nl4 nl5 hg4 hc5 hd1 hd2
    go_wp2_with fail
    go_ret
    exact ⟨_, _, _, _, _, _, _, rfl, HC.out.1, HC.out.2, Lib.hid (by simpa using HR.out)⟩
end Go.Proofs.YtfjipoijbmmjcaaGreatDoor
namespace Go.Proofs.YtfjipoijbmmjcaaGreatDoor
open Go.RowKit
set_option linter.unusedVariables false
set_option linter.unusedSimpArgs false

theorem add_any (w : World) (hL : LLaid w) (B g : Nat) (s : ByteArray) (hs : s.size ≤ 4194304) (cs : List (Pr × Value)) (is : List Int) (ts : List ByteArray) (vp vi vt : Value) (hP : OwnPg w B g cs is ts vp vi vt) (hB : B ≤ w.heap.size)
  (hn1 : cs.length ≤ 100000) (hn2 : is.length ≤ 100000) (hn3 : ts.length ≤ 100000) (hn4 : ∀ c ∈ cs, c.1.cd.length ≤ 100000) :
  Calls Tryz.prog 23 #[.pointer (some ⟨g, 0, none⟩), .string s] w (AddE w B g s cs is ts) := by
 have hlen := pieces_len s
 obtain ⟨l0, L, hpc⟩ : ∃ l0 L, pieces s = l0 :: L := by
  cases h : pieces s with
  | nil => rw [h] at hlen; simp at hlen
  | cons a l => exact ⟨a, l, rfl⟩
 by_cases h1 : l0 = sFunc
 ·exact add_func w hL B g s hs cs is ts vp vi vt hP hB hn1 hn2 hn3 hn4 l0 L hpc h1
 by_cases h2 : l0 = sIw
 ·exact add_int w hL B g s hs cs is ts vp vi vt hP hB hn1 hn2 hn3 hn4 l0 L hpc h2
 by_cases h3 : l0 = sTw
 ·exact add_text w hL B g s hs cs is ts vp vi vt hP hB hn1 hn2 hn3 hn4 l0 L hpc h3
 exact add_ins w hL B g s hs cs is ts vp vi vt hP hB hn1 hn2 hn3 hn4 l0 L hpc h1 h2 h3
end Go.Proofs.YtfjipoijbmmjcaaGreatDoor
