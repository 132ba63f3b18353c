/- A line added to a program: a function's head. A line added to a program: a number, a text. -/
import Derived.Test.YtfjipoijbmmjcaaGreatDoorYB4
namespace Go.Proofs.YtfjipoijbmmjcaaGreatDoor
open Go.RowKit
set_option linter.unusedVariables false
set_option linter.unusedSimpArgs false

def AddE (w : World) (B g : Nat) (s : ByteArray) (cs : List (Pr × Value)) (is : List Int) (ts : List ByteArray) (e : Ending) (w' : World) : Prop :=
 ∃ ok cs' is' ts' vp' vi' vt', e = .returned (.bool ok) ∧ OwnPg w' B g cs' is' ts' vp' vi' vt' ∧ Turn B g w w' ∧ Hid (AddR s (cs.map (·.1)) (cs'.map (·.1)) is is' ts ts' ok)
theorem texts_new (w : World) (L : List ByteArray) : TextsAt (w.alloc (.cells (L.map Value.string).toArray 9)) (.slice (some ⟨w.heap.size, 0, none⟩) L.length L.length) L := by
 refine ⟨_, _, rfl, fun _ => ⟨_, _, rfl, fun i hi => ?_⟩⟩
 rw [(Blk.new w 9 _).cell]
 simp [hi]
theorem tail_some {w : World} {b n : Nat} {l0 : ByteArray} {L : List ByteArray} (h : TextsAt w (.slice (some ⟨b, 0, none⟩) (l0 :: L).length (l0 :: L).length) (l0 :: L)) (hn : L.length = n) (h0 : 0 < n) : TextsAt w (.slice (some ⟨b, 1, none⟩) n n) L := by
 subst hn
 obtain ⟨q, c, e, hx⟩ := h
 obtain ⟨b2, o2, e2, hx⟩ := hx (by simp)
 simp only [Value.slice.injEq] at e
 obtain ⟨e1, _, _⟩ := e
 rw [e2] at e1
 simp only [Option.some.injEq, Addr.mk.injEq] at e1
 obtain ⟨rfl, rfl, _⟩ := e1
 refine ⟨_, _, rfl, fun _ => ⟨_, _, rfl, fun i hi => ?_⟩⟩
 have := hx (i + 1) (by simp; omega)
 rw [show 0 + (i + 1) = 1 + i by omega] at this
 simpa using this
theorem tail_none {w : World} {q : Option Addr} {c n : Nat} {L : List ByteArray} (hn : L.length = n) (h0 : n = 0) : TextsAt w (.slice q 0 c) L := by
 subst h0
 exact ⟨q, c, by rw [hn], fun h => by omega⟩
theorem nomap {L : List ByteArray} {x : ByteArray} {R : List (Option Int)} (hx : x ∈ L) (hn : tnS x = none) (h : L.map tnS = R) (hR : ∀ y ∈ R, y ≠ none := by simp) : False :=
 hR _ (by rw [← h]; exact List.mem_map.2 ⟨x, hx, hn⟩) rfl
theorem row_slice {w : World} {B n sz : Nat} {e : TypeId} {v : Value} {xs : List Value} (h : w.ownsRow B e sz v n xs) : ∃ q m c, v = .slice q m c := by
 rcases h.2 with ⟨rfl, rfl⟩ | ⟨g, cap, cur, rfl, _⟩
 ·exact ⟨none, 0, 0, rfl⟩
 ·exact ⟨_, _, _, rfl⟩
theorem cell_same {w w' : World} {k : Nat} {t : TypeId} {cs : Array Value} (h : Blk w k t cs) (h' : Blk w' k t cs) {i : Nat} {v : Value} (hc : w.cell? ⟨k, i, none⟩ = some v) : w'.cell? ⟨k, i, none⟩ = some v := by rw [h'.cell, ← h.cell]; exact hc
theorem two_ints {l : List Int} (h : l.length = 2) : ∃ a b, l = [a, b] := by
 match l, h with
 | [a, b], _ => exact ⟨a, b, rfl⟩
theorem own_two {w : World} {B c : Nat} {q : Option Addr} {a b : Int} (h : OwnN w B (.slice q 2 c) [a, b]) : ∃ g, q = some ⟨g, 0, none⟩ ∧ w.cell? ⟨g, 0, none⟩ = some (.int .i64 a) ∧ w.cell? ⟨g, 1, none⟩ = some (.int .i64 b) ∧ ∃ cur, Blk w g 3 cur := by
 rcases h.2 with ⟨e, _⟩ | ⟨g, cap, cur, e, _, hh, _⟩
 ·simp at e
 ·simp only [Value.slice.injEq] at e
  obtain ⟨rfl, _, rfl⟩ := e
  exact ⟨g, rfl, h.cellAt 0 (by simp), h.cellAt 1 (by simp), cur, hh⟩
set_option maxRecDepth 100000 in
set_option maxHeartbeats 8000000 in
theorem add_func (w : World) (hL : LLaid w) (B g : Nat) (s : ByteArray) (hs : s.size ≤ 4194304) (cs : List (Pr × Value)) (is : List Int) (ts : List ByteArray) (vp vi vt : Value) (hP : OwnPg w B g cs is ts vp vi vt) (hB : B ≤ w.heap.size)
  (hn1 : cs.length ≤ 100000) (hn2 : is.length ≤ 100000) (hn3 : ts.length ≤ 100000) (hn4 : ∀ c ∈ cs, c.1.cd.length ≤ 100000) (l0 : ByteArray) (L : List ByteArray) (hpc : pieces s = l0 :: L) (h1 : l0 = sFunc) :
  Calls Tryz.prog 23 #[.pointer (some ⟨g, 0, none⟩), .string s] w (AddE w B g s cs is ts) := by
 obtain ⟨mm, hmm⟩ := hL.mx
 have cSp := Tryz.strings_Split s ⟨#[32]⟩ mm w (by omega) hmm (by decide)
 have hlen := pieces_len s
 have hpl := pieces_le s
 rw [hpc] at hlen hpl
 have hpc' : Lib.splitB ⟨#[32]⟩ 0 (Lib.countB s ⟨#[32]⟩) s = l0 :: L := hpc
 have hlen' : Lib.countB s ⟨#[32]⟩ = L.length := by
  have : L.length + 1 = Lib.countB s ⟨#[32]⟩ + 1 := hlen
  omega
 rw [hpc', hlen'] at cSp
 have hLs : L.length ≤ 4194304 := by
  have h6 := Lib.countB_le spB (by decide) s.size s (Nat.le_refl _)
  have h7 : Lib.countB s spB = L.length := hlen'
  omega
 have HLS := Lib.hid hLs
 have HPL := Lib.hid hpl
 have HPC := Lib.hid hpc
 have HT := Lib.hid (texts_new w (l0 :: L))
 have HL := Lib.hid (hL.ext ((Ext.refl w).alloc (.cells ((l0 :: L).map Value.string).toArray 9)))
 have HP := Lib.hid (hP.ext ((Ext.refl w).alloc (.cells ((l0 :: L).map Value.string).toArray 9)))
 have E0 := Lib.hid ((Ext.refl w).alloc (.cells ((l0 :: L).map Value.string).toArray 9))
 have HBW := Lib.hid hB
 have HS := Lib.hid hs
 have HN1 := Lib.hid hn1
 have HN2 := Lib.hid hn2
 have HN3 := Lib.hid hn3
 have HN4 := Lib.hid hn4
 obtain ⟨n, hn⟩ : ∃ n, L.length = n := ⟨_, rfl⟩
 have hnI : (n : Int) ≤ 4194304 := by omega
 rw [hn] at cSp
 have HN := Lib.hid hn
 clear hL hlen hpl hpc hpc' hlen' hLs hP hB hs hn1 hn2 hn3 hn4 hn hmm
 go_enter Tryz.func23, Tryz.ntmps23
 go_wp2_with fail
 refine cSp.mono ?_
 clear cSp
 rintro e w1 ⟨rfl, rfl⟩
 obtain ⟨W1, hW1⟩ : ∃ W, w.alloc (.cells ((l0 :: L).map Value.string).toArray 9) = W := ⟨_, rfl⟩
 obtain ⟨b, hb⟩ : ∃ b, w.heap.size = b := ⟨_, rfl⟩
 rw [hW1] at HT HL HP E0 ⊢
 rw [hb] at HT ⊢
 clear hW1
 have HB1 : Hid (B ≤ W1.heap.size) := Lib.hid (Nat.le_trans HBW.out E0.out.le)
 have c0 : W1.cell? ⟨b, 0, none⟩ = some (.string l0) := by
  obtain ⟨q, c, e, hx⟩ := HT.out
  obtain ⟨b2, o2, e2, hx⟩ := hx (by simp)
  injection e with e
  rw [e2] at e
  injection e with e
  injection e with e3 e4
  subst e3 e4
  exact hx 0 (by simp)
 have hbl := cell_lt c0
 simp only at hbl
 have q1 : (l0.toList == [102, 117, 110, 99]) = true := by rw [h1]; kernel_rfl
 have H1 := Lib.hid h1
 clear h1
 have cN := Lib.hid (fun (v : Value) (hv : TextsAt W1 v L) => numbers_any L v W1 HL.out hv (by have := HLS.out; omega) (fun x hx => by
  have h1 := HPL.out x (List.mem_cons_of_mem _ hx)
  have h2 := HS.out
  omega))
 go_wp2_with fail
 all_goals (
  refine (cN.out _ ?_).mono ?_
  focus (
   first
    | exact tail_some HT.out HN.out (by omega)
    | exact tail_none HN.out (by omega))
  rintro e w2 ⟨v2, ok2, rfl, e2, HH⟩
  have E2 := Lib.hid e2
  have HP2 := Lib.hid (HP.out.ext e2)
  have HB2 : Hid (B ≤ w2.heap.size) := Lib.hid (Nat.le_trans HB1.out e2.le)
  clear e2 q1
  rcases HH.out with ⟨rfl, ns, hm, hi64, hown⟩ | ⟨rfl, rfl, x, hx, hxn⟩
  case inr =>
   have HR := Lib.hid (AddR.fn_no (ps := cs.map (·.1)) (is := is) (ts := ts) (by rw [HPC.out, H1.out]) (fun a b h => nomap hx hxn h))
   clear hx hxn HH
   go_wp2_with fail
   go_ret
   exact ⟨_, _, _, _, _, _, _, rfl, HP2.out, Turn.of_ext (E0.out.trans E2.out), HR⟩
  case inl =>
   obtain ⟨q, c, rfl⟩ := OwnN.slice hown
   have HM := Lib.hid hm
   have HI := Lib.hid hi64
   have HO := Lib.hid hown
   clear hm hi64 hown HH
   obtain ⟨m2, hm2⟩ : ∃ m, ns.length = m := ⟨_, rfl⟩
   rw [hm2] at HO ⊢
   have HM2 := Lib.hid hm2
   clear hm2
   by_cases h2 : m2 = 2
   case neg =>
    have t1 : ((m2 : Int) == 2) = false := by rw [beq_eq_false_iff_ne]; omega
    have t2 : ((m2 : Int) != 2) = true := by simp; omega
    have HR := Lib.hid (AddR.fn_no (ps := cs.map (·.1)) (is := is) (ts := ts) (by rw [HPC.out, H1.out]) (fun a b h => by
     have := congrArg List.length (HM.out.symm.trans h)
     rw [List.length_map, HM2.out] at this
     exact h2 this))
    have H2 := Lib.hid h2
    clear h2
    go_wp2_with fail
    go_ret
    exact ⟨_, _, _, _, _, _, _, rfl, HP2.out, Turn.of_ext (E0.out.trans E2.out), HR⟩
   case pos =>
    subst h2
    have hL2 : n = 2 := by
     have := congrArg List.length HM.out
     rw [List.length_map, List.length_map, HM2.out, HN.out] at this
     exact this
    try (exfalso; omega)
    all_goals (
     obtain ⟨a0, b0, rfl⟩ : ∃ a b, ns = [a, b] := two_ints HM2.out
     obtain ⟨bn, rfl, n0, n1, cur, hbn⟩ := own_two HO.out
     have hd1 : ¬ bn = g := fun e => by subst e; exact absurd (blk_same hbn HP2.out.blk) (by decide)
     have hd2 : ¬ g = bn := fun e => hd1 e.symm
     have g0 := HP2.out.blk.cell 0
     have f0 := HP2.out.blk.frozen 0
     have gl := HP2.out.blk.lt
     have nl := cell_lt n0
     simp only [List.getElem?_toArray, List.getElem?_cons_zero] at g0 nl
     obtain ⟨v', w3, hrun, hown3, htrn3, hgr3, hblk3⟩ := OwnPg.proto (HP2.out.ext (((Ext.refl w2).alloc (.cells #[.int .i64 a0, .int .i64 b0, .slice none 0 0] 39)).drew)) w2.heap.size a0 b0 (Blk.new w2 _ _).drew 22 (Nat.le_trans HB2.out (((Ext.refl w2).alloc (.cells #[.int .i64 a0, .int .i64 b0, .slice none 0 0] 39)).drew).le) (by have := HN1.out; omega)
     obtain ⟨q3, m3, c3, rfl⟩ := row_slice hown3.ps
     have hbn3 := blk_grown (hbn.ext (((Ext.refl w2).alloc (.cells #[.int .i64 a0, .int .i64 b0, .slice none 0 0] 39)).drew)) (HP2.out.ext (((Ext.refl w2).alloc (.cells #[.int .i64 a0, .int .i64 b0, .slice none 0 0] 39)).drew)).ps (by decide) hgr3
     have m0 := cell_same hbn hbn3 n0
     have m1 := cell_same hbn hbn3 n1
     have ml := hbn3.lt
     clear hbn hbn3 cur
     have HRUN := Lib.hid hrun
     have HO3 := Lib.hid hown3
     have HT3 := Lib.hid ((Turn.of_ext (B := B) (g := g) ((E0.out.trans E2.out).trans (((Ext.refl w2).alloc (.cells #[.int .i64 a0, .int .i64 b0, .slice none 0 0] 39)).drew))).trans htrn3)
     have z0 := hblk3.cell 0
     have z1 := hblk3.frozen 0
     have z2 := hblk3.lt
     simp only [List.getElem?_toArray, List.getElem?_cons_zero] at z0
     have HR := Lib.hid (AddR.fn_yes (ps := cs.map (·.1)) (is := is) (ts := ts) (by rw [HPC.out, H1.out]) (by rw [HM.out]; rfl) (HI.out a0 (by simp)) (HI.out b0 (by simp)))
     have t1 : ((2 : Int) != 2) = false := by decide
     clear hrun hown3 htrn3 hgr3 hblk3
     go_wp2_with fail
     go_upto_region 7 with (fail)
     go_cut [48] (fun _ wx => ∃ vp', Hid (OwnPg wx B g (cs ++ [((⟨a0, b0, []⟩ : Pr), Value.slice none 0 0)]) is ts vp' vi vt ∧ Turn B g w wx))
     case first =>
      go_region_law (refine step_append_run rfl _ _ 22 rfl _ _ _ _ rfl rfl HRUN.out ?_)
      all_goals (
       go_wp2_with fail
       go_meet
       exact ⟨_, Lib.hid ⟨HO3.out, HT3.out⟩⟩)
     case rest =>
     obtain ⟨vp', HC⟩ := hcut
     clear g0 f0 gl nl n0 n1 z0 z1 z2 hd1 hd2 m0 m1 ml
     go_wp2_with fail
     go_ret
     exact ⟨_, _, _, _, _, _, _, rfl, HC.out.1, HC.out.2, Lib.hid (by rw [List.map_append]; exact HR.out)⟩))
end Go.Proofs.YtfjipoijbmmjcaaGreatDoor
namespace Go.Proofs.YtfjipoijbmmjcaaGreatDoor
open Go.RowKit
set_option linter.unusedVariables false
set_option linter.unusedSimpArgs false

theorem one_text {L : List ByteArray} (h : L.length = 1) : ∃ x, L = [x] := by
 match L, h with
 | [x], _ => exact ⟨x, rfl⟩
set_option maxRecDepth 100000 in
set_option maxHeartbeats 8000000 in
theorem add_int (w : World) (hL : LLaid w) (B g : Nat) (s : ByteArray) (hs : s.size ≤ 4194304) (cs : List (Pr × Value)) (is : List Int) (ts : List ByteArray) (vp vi vt : Value) (hP : OwnPg w B g cs is ts vp vi vt) (hB : B ≤ w.heap.size)
  (hn1 : cs.length ≤ 100000) (hn2 : is.length ≤ 100000) (hn3 : ts.length ≤ 100000) (hn4 : ∀ c ∈ cs, c.1.cd.length ≤ 100000) (l0 : ByteArray) (L : List ByteArray) (hpc : pieces s = l0 :: L) (h1 : l0 = sIw) :
  Calls Tryz.prog 23 #[.pointer (some ⟨g, 0, none⟩), .string s] w (AddE w B g s cs is ts) := by
 obtain ⟨mm, hmm⟩ := hL.mx
 have cSp := Tryz.strings_Split s ⟨#[32]⟩ mm w (by omega) hmm (by decide)
 have hlen := pieces_len s
 have hpl := pieces_le s
 rw [hpc] at hlen hpl
 have hpc' : Lib.splitB ⟨#[32]⟩ 0 (Lib.countB s ⟨#[32]⟩) s = l0 :: L := hpc
 have hlen' : Lib.countB s ⟨#[32]⟩ = L.length := by
  have : L.length + 1 = Lib.countB s ⟨#[32]⟩ + 1 := hlen
  omega
 rw [hpc', hlen'] at cSp
 have hLs : L.length ≤ 4194304 := by
  have h6 := Lib.countB_le spB (by decide) s.size s (Nat.le_refl _)
  have h7 : Lib.countB s spB = L.length := hlen'
  omega
 have HLS := Lib.hid hLs
 have HPL := Lib.hid hpl
 have HPC := Lib.hid hpc
 have HT := Lib.hid (texts_new w (l0 :: L))
 have HL := Lib.hid (hL.ext ((Ext.refl w).alloc (.cells ((l0 :: L).map Value.string).toArray 9)))
 have HP := Lib.hid (hP.ext ((Ext.refl w).alloc (.cells ((l0 :: L).map Value.string).toArray 9)))
 have E0 := Lib.hid ((Ext.refl w).alloc (.cells ((l0 :: L).map Value.string).toArray 9))
 have HBW := Lib.hid hB
 have HS := Lib.hid hs
 have HN1 := Lib.hid hn1
 have HN2 := Lib.hid hn2
 have HN3 := Lib.hid hn3
 have HN4 := Lib.hid hn4
 obtain ⟨n, hn⟩ : ∃ n, L.length = n := ⟨_, rfl⟩
 have hnI : (n : Int) ≤ 4194304 := by omega
 rw [hn] at cSp
 have HN := Lib.hid hn
 clear hL hlen hpl hpc hpc' hlen' hLs hP hB hs hn1 hn2 hn3 hn4 hn hmm
 go_enter Tryz.func23, Tryz.ntmps23
 go_wp2_with fail
 refine cSp.mono ?_
 clear cSp
 rintro e w1 ⟨rfl, rfl⟩
 obtain ⟨W1, hW1⟩ : ∃ W, w.alloc (.cells ((l0 :: L).map Value.string).toArray 9) = W := ⟨_, rfl⟩
 obtain ⟨b, hb⟩ : ∃ b, w.heap.size = b := ⟨_, rfl⟩
 rw [hW1] at HT HL HP E0 ⊢
 rw [hb] at HT ⊢
 clear hW1
 have HB1 : Hid (B ≤ W1.heap.size) := Lib.hid (Nat.le_trans HBW.out E0.out.le)
 have c0 : W1.cell? ⟨b, 0, none⟩ = some (.string l0) := by
  obtain ⟨q, c, e, hx⟩ := HT.out
  obtain ⟨b2, o2, e2, hx⟩ := hx (by simp)
  injection e with e
  rw [e2] at e
  injection e with e
  injection e with e3 e4
  subst e3 e4
  exact hx 0 (by simp)
 have hbl := cell_lt c0
 simp only at hbl
 have q1 : (l0.toList == [102, 117, 110, 99]) = false := by rw [h1]; kernel_rfl
 have q2 : (l0.toList == [105, 110, 116]) = true := by rw [h1]; kernel_rfl
 have H1 := Lib.hid h1
 clear h1
 have c1 : 1 < n + 1 → ∀ x, L = x :: L.tail → W1.cell? ⟨b, 1, none⟩ = some (.string x) := fun _ x hx => by
  obtain ⟨q, c, e, hy⟩ := HT.out
  obtain ⟨b2, o2, e2, hy⟩ := hy (by simp)
  injection e with e
  rw [e2] at e
  injection e with e
  injection e with e3 e4
  subst e3 e4
  have h := hy 1 (by rw [hx]; simp)
  have h2 : (l0 :: L)[1]'(by rw [hx]; simp) = x := by
   have : (l0 :: L)[1]? = some x := by rw [hx]; rfl
   exact (List.getElem?_eq_some_iff.1 this).2
  rw [h2] at h
  exact h
 by_cases h2 : n = 1
 case neg =>
  have t1 : (((n : Int) + 1) == 2) = false := by rw [beq_eq_false_iff_ne]; omega
  have t2 : (((n : Int) + 1) != 2) = true := by simp; omega
  have t3 : ((n : Int) == 1) = false := by rw [beq_eq_false_iff_ne]; omega
  have HR := Lib.hid (AddR.int_no (ps := cs.map (·.1)) (is := is) (ts := ts) (by rw [HPC.out, H1.out]) (by rw [HN.out]; exact h2))
  clear h2 c1
  go_wp2_with fail
  go_ret
  exact ⟨_, _, _, _, _, _, _, rfl, HP.out, Turn.of_ext E0.out, HR⟩
 case pos =>
  subst h2
  obtain ⟨x, rfl⟩ : ∃ x, L = [x] := one_text HN.out
  have d1 := c1 (by omega) x rfl
  have HX := Lib.hid (HPL.out x (by simp))
  clear c1
  go_wp2_with fail
  refine (pint_any x (by have h1 := HX.out; have h2 := HS.out; omega) _ HL.out).mono ?_
  rintro e w2 ⟨u, ev, rfl, e2, hu, HH⟩
  have E2 := Lib.hid e2
  have HP2 := Lib.hid (HP.out.ext e2)
  have HB2 : Hid (B ≤ w2.heap.size) := Lib.hid (Nat.le_trans HB1.out e2.le)
  have HU := Lib.hid hu
  clear e2 d1 hu
  have HOK : Hid (∃ ok, (ev = .nilIface ∧ ok = true ∨ (∃ T p, ev = .iface T p) ∧ ok = false) ∧ AddR s (cs.map (·.1)) (cs.map (·.1)) is (is ++ [u]) ts ts ok) := Lib.hid (by
   rcases HH.out with ⟨hp, he⟩ | ⟨hp, T, p, he⟩
   ·exact ⟨true, .inl ⟨he, rfl⟩, AddR.int_yes (by rw [HPC.out, H1.out]) HU.out (.inl ⟨hp, rfl⟩)⟩
   ·exact ⟨false, .inr ⟨⟨T, p, he⟩, rfl⟩, AddR.int_yes (by rw [HPC.out, H1.out]) HU.out (.inr ⟨hp, rfl⟩)⟩)
  obtain ⟨ok, hok, hR⟩ := HOK.out
  have HR := Lib.hid hR
  clear hR HOK HH
  rcases hok with ⟨rfl, rfl⟩ | ⟨⟨T, p, rfl⟩, rfl⟩
  ·have g0 := HP2.out.blk.cell 1
   have f0 := HP2.out.blk.frozen 1
   have gl := HP2.out.blk.lt
   simp only [List.getElem?_toArray, List.getElem?_cons_zero, List.getElem?_cons_succ] at g0
   obtain ⟨v', w3, hrun, hown3, htrn3, hgr3, hblk3⟩ := OwnPg.int (HP2.out.ext ((Ext.refl w2).alloc (.cells #[.int .i64 u] 2))) w2.heap.size u (Blk.new w2 _ _) 23 (Nat.le_trans HB2.out ((Ext.refl w2).alloc (.cells #[.int .i64 u] 2)).le) (by have := HN2.out; omega)
   obtain ⟨q3, m3, c3, rfl⟩ := row_slice hown3.is
   have HRUN := Lib.hid hrun.run
   have HO3 := Lib.hid hown3
   have HT3 := Lib.hid ((Turn.of_ext (B := B) (g := g) ((E0.out.trans E2.out).trans ((Ext.refl w2).alloc (.cells #[.int .i64 u] 2)))).trans htrn3)
   have z0 := hblk3.cell 1
   have z1 := hblk3.frozen 1
   have z2 := hblk3.lt
   simp only [List.getElem?_toArray, List.getElem?_cons_zero, List.getElem?_cons_succ] at z0
   clear hrun hown3 htrn3 hgr3 hblk3
   go_wp2_with (at_builtin; refine wpList_append_run rfl _ _ 23 rfl _ _ _ _ rfl rfl HRUN.out ?_)
   go_ret
   exact ⟨_, _, _, _, _, _, _, rfl, HO3.out, HT3.out, HR⟩
  ·have g0 := HP2.out.blk.cell 1
   have f0 := HP2.out.blk.frozen 1
   have gl := HP2.out.blk.lt
   simp only [List.getElem?_toArray, List.getElem?_cons_zero, List.getElem?_cons_succ] at g0
   obtain ⟨v', w3, hrun, hown3, htrn3, hgr3, hblk3⟩ := OwnPg.int (HP2.out.ext ((Ext.refl w2).alloc (.cells #[.int .i64 u] 2))) w2.heap.size u (Blk.new w2 _ _) 23 (Nat.le_trans HB2.out ((Ext.refl w2).alloc (.cells #[.int .i64 u] 2)).le) (by have := HN2.out; omega)
   obtain ⟨q3, m3, c3, rfl⟩ := row_slice hown3.is
   have HRUN := Lib.hid hrun.run
   have HO3 := Lib.hid hown3
   have HT3 := Lib.hid ((Turn.of_ext (B := B) (g := g) ((E0.out.trans E2.out).trans ((Ext.refl w2).alloc (.cells #[.int .i64 u] 2)))).trans htrn3)
   have z0 := hblk3.cell 1
   have z1 := hblk3.frozen 1
   have z2 := hblk3.lt
   simp only [List.getElem?_toArray, List.getElem?_cons_zero, List.getElem?_cons_succ] at z0
   clear hrun hown3 htrn3 hgr3 hblk3
   go_wp2_with (at_builtin; refine wpList_append_run rfl _ _ 23 rfl _ _ _ _ rfl rfl HRUN.out ?_)
   go_ret
   exact ⟨_, _, _, _, _, _, _, rfl, HO3.out, HT3.out, HR⟩
set_option maxRecDepth 100000 in
set_option maxHeartbeats 8000000 in
theorem add_text (w : World) (hL : LLaid w) (B g : Nat) (s : ByteArray) (hs : s.size ≤ 4194304) (cs : List (Pr × Value)) (is : List Int) (ts : List ByteArray) (vp vi vt : Value) (hP : OwnPg w B g cs is ts vp vi vt) (hB : B ≤ w.heap.size)
  (hn1 : cs.length ≤ 100000) (hn2 : is.length ≤ 100000) (hn3 : ts.length ≤ 100000) (hn4 : ∀ c ∈ cs, c.1.cd.length ≤ 100000) (l0 : ByteArray) (L : List ByteArray) (hpc : pieces s = l0 :: L) (h1 : l0 = sTw) :
  Calls Tryz.prog 23 #[.pointer (some ⟨g, 0, none⟩), .string s] w (AddE w B g s cs is ts) := by
 obtain ⟨mm, hmm⟩ := hL.mx
 have cSp := Tryz.strings_Split s ⟨#[32]⟩ mm w (by omega) hmm (by decide)
 have hlen := pieces_len s
 have hpl := pieces_le s
 rw [hpc] at hlen hpl
 have hpc' : Lib.splitB ⟨#[32]⟩ 0 (Lib.countB s ⟨#[32]⟩) s = l0 :: L := hpc
 have hlen' : Lib.countB s ⟨#[32]⟩ = L.length := by
  have : L.length + 1 = Lib.countB s ⟨#[32]⟩ + 1 := hlen
  omega
 rw [hpc', hlen'] at cSp
 have hLs : L.length ≤ 4194304 := by
  have h6 := Lib.countB_le spB (by decide) s.size s (Nat.le_refl _)
  have h7 : Lib.countB s spB = L.length := hlen'
  omega
 have HLS := Lib.hid hLs
 have HPL := Lib.hid hpl
 have HPC := Lib.hid hpc
 have HT := Lib.hid (texts_new w (l0 :: L))
 have HL := Lib.hid (hL.ext ((Ext.refl w).alloc (.cells ((l0 :: L).map Value.string).toArray 9)))
 have HP := Lib.hid (hP.ext ((Ext.refl w).alloc (.cells ((l0 :: L).map Value.string).toArray 9)))
 have E0 := Lib.hid ((Ext.refl w).alloc (.cells ((l0 :: L).map Value.string).toArray 9))
 have HBW := Lib.hid hB
 have HS := Lib.hid hs
 have HN1 := Lib.hid hn1
 have HN2 := Lib.hid hn2
 have HN3 := Lib.hid hn3
 have HN4 := Lib.hid hn4
 obtain ⟨n, hn⟩ : ∃ n, L.length = n := ⟨_, rfl⟩
 have hnI : (n : Int) ≤ 4194304 := by omega
 rw [hn] at cSp
 have HN := Lib.hid hn
 clear hL hlen hpl hpc hpc' hlen' hLs hP hB hs hn1 hn2 hn3 hn4 hn hmm
 go_enter Tryz.func23, Tryz.ntmps23
 go_wp2_with fail
 refine cSp.mono ?_
 clear cSp
 rintro e w1 ⟨rfl, rfl⟩
 obtain ⟨W1, hW1⟩ : ∃ W, w.alloc (.cells ((l0 :: L).map Value.string).toArray 9) = W := ⟨_, rfl⟩
 obtain ⟨b, hb⟩ : ∃ b, w.heap.size = b := ⟨_, rfl⟩
 rw [hW1] at HT HL HP E0 ⊢
 rw [hb] at HT ⊢
 clear hW1
 have HB1 : Hid (B ≤ W1.heap.size) := Lib.hid (Nat.le_trans HBW.out E0.out.le)
 have c0 : W1.cell? ⟨b, 0, none⟩ = some (.string l0) := by
  obtain ⟨q, c, e, hx⟩ := HT.out
  obtain ⟨b2, o2, e2, hx⟩ := hx (by simp)
  injection e with e
  rw [e2] at e
  injection e with e
  injection e with e3 e4
  subst e3 e4
  exact hx 0 (by simp)
 have hbl := cell_lt c0
 simp only at hbl
 have q1 : (l0.toList == [102, 117, 110, 99]) = false := by rw [h1]; kernel_rfl
 have q2 : (l0.toList == [105, 110, 116]) = false := by rw [h1]; kernel_rfl
 have q3 : (l0.toList == [116, 101, 120, 116]) = true := by rw [h1]; kernel_rfl
 have H1 := Lib.hid h1
 clear h1
 have c1 : 1 < n + 1 → ∀ x, L = x :: L.tail → W1.cell? ⟨b, 1, none⟩ = some (.string x) := fun _ x hx => by
  obtain ⟨q, c, e, hy⟩ := HT.out
  obtain ⟨b2, o2, e2, hy⟩ := hy (by simp)
  injection e with e
  rw [e2] at e
  injection e with e
  injection e with e3 e4
  subst e3 e4
  have h := hy 1 (by rw [hx]; simp)
  have h2 : (l0 :: L)[1]'(by rw [hx]; simp) = x := by
   have : (l0 :: L)[1]? = some x := by rw [hx]; rfl
   exact (List.getElem?_eq_some_iff.1 this).2
  rw [h2] at h
  exact h
 by_cases h2 : n = 1
 case neg =>
  have t1 : (((n : Int) + 1) == 2) = false := by rw [beq_eq_false_iff_ne]; omega
  have t2 : (((n : Int) + 1) != 2) = true := by simp; omega
  have t3 : ((n : Int) == 1) = false := by rw [beq_eq_false_iff_ne]; omega
  have HR := Lib.hid (AddR.text_no (ps := cs.map (·.1)) (is := is) (ts := ts) (by rw [HPC.out, H1.out]) (by rw [HN.out]; exact h2))
  clear h2 c1
  go_wp2_with fail
  go_ret
  exact ⟨_, _, _, _, _, _, _, rfl, HP.out, Turn.of_ext E0.out, HR⟩
 case pos =>
  subst h2
  obtain ⟨x, rfl⟩ : ∃ x, L = [x] := one_text HN.out
  have d1 := c1 (by omega) x rfl
  have HX := Lib.hid (HPL.out x (by simp))
  clear c1
  go_wp2_with fail
  refine (unhex_any x (by have h1 := HX.out; have h2 := HS.out; omega) _).mono ?_
  rintro e w2 ⟨t, ok, rfl, e2, hts, HH⟩
  have E2 := Lib.hid e2
  have HP2 := Lib.hid (HP.out.ext e2)
  have HB2 : Hid (B ≤ w2.heap.size) := Lib.hid (Nat.le_trans HB1.out e2.le)
  have HR := Lib.hid (AddR.text_yes (ps := cs.map (·.1)) (is := is) (ts := ts) (by rw [HPC.out, H1.out]) hts HH.out)
  clear e2 d1 hts HH
  have g0 := HP2.out.blk.cell 2
  have f0 := HP2.out.blk.frozen 2
  have gl := HP2.out.blk.lt
  simp only [List.getElem?_toArray, List.getElem?_cons_zero, List.getElem?_cons_succ] at g0
  obtain ⟨v', w3, hrun, hown3, htrn3, hgr3, hblk3⟩ := OwnPg.text (HP2.out.ext ((Ext.refl w2).alloc (.cells #[.string t] 9))) w2.heap.size t (Blk.new w2 _ _) 24 (Nat.le_trans HB2.out ((Ext.refl w2).alloc (.cells #[.string t] 9)).le) (by have := HN3.out; omega)
  obtain ⟨q3, m3, c3, rfl⟩ := row_slice hown3.ts
  have HRUN := Lib.hid hrun.run
  have HO3 := Lib.hid hown3
  have HT3 := Lib.hid ((Turn.of_ext (B := B) (g := g) ((E0.out.trans E2.out).trans ((Ext.refl w2).alloc (.cells #[.string t] 9)))).trans htrn3)
  have z0 := hblk3.cell 2
  have z1 := hblk3.frozen 2
  have z2 := hblk3.lt
  simp only [List.getElem?_toArray, List.getElem?_cons_zero, List.getElem?_cons_succ] at z0
  clear hrun hown3 htrn3 hgr3 hblk3
  go_wp2_with (at_builtin; refine wpList_append_run rfl _ _ 24 rfl _ _ _ _ rfl rfl HRUN.out ?_)
  go_ret
  exact ⟨_, _, _, _, _, _, _, rfl, HO3.out, HT3.out, HR⟩
end Go.Proofs.YtfjipoijbmmjcaaGreatDoor
