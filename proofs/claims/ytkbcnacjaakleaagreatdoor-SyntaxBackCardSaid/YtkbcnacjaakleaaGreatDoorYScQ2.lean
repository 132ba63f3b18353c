/- tabor.tree: may, Check. -/
import Derived.Test.YtkbcnacjaakleaaGreatDoorYScO
import Derived.Test.YtkbcnacjaakleaaGreatDoorYScI
set_option maxRecDepth 100000
set_option maxHeartbeats 32000000
set_option linter.unusedVariables false
set_option linter.unusedSimpArgs false
namespace Go.Proofs.YtkbcnacjaakleaaGreatDoor
open Go.RowKit

theorem step_store_row {P : Program} {w : World} {ops : Array Oper} {o : Oper} {a : Act} {K : Act → World → Prop} {Q : Exit → Act → World → Prop} {E : Prop} (hgd : o.guard = none) (ty : TypeId) (x y : Operand) (ho : o.op = .store ty x y) (g : Nat) (hx : a.eval x = .pointer (some ⟨g, 0, none⟩)) (cs old : Array Value) (hy : a.eval y = .agg cs) (t : TypeId)
  (hg : w.heap[g]? = some (.cells old t (0, 0))) (hi : (P.info? ty).map (·.size) = some cs.size) (hs : old.size = cs.size) (h1 : cs.all (·.oneCell') = true)
  (h : K (a.put o.dst undef) (w.setRow g cs)) : if Region.wanted o (yielded ops a.tmps) = true then Oper.wp P o a w K Q else E := by
 have hw : Region.wanted o (yielded ops a.tmps) = true := by simp [Region.wanted, hgd]
 rw [if_pos hw]
 unfold Oper.wp execOp
 simp only [ho, hx, hy, Instr.storeAt, Instr.sureAddr, Sem.run_bind, Sem.run_pure, Result.andThen_ok, run_storeVar_row w g t ty old cs hg hi hs h1]
 exact h
theorem setRow_ext {a w : World} {g : Nat} (h : Ext a w) (hg : a.heap.size ≤ g) (cs : Array Value) : Ext a (w.setRow g cs) := below_setRow h hg cs
theorem setRow_blk {w : World} {g : Nat} {t : TypeId} {cs : Array Value} (h : Blk w g t cs) (cs' : Array Value) : Blk (w.setRow g cs') g t cs' := by
 unfold Blk at h ⊢
 simp [World.setRow, Array.getElem?_modify, h]
theorem setRow_far {w : World} {g g' : Nat} {t : TypeId} {cs : Array Value} (h : Blk w g t cs) (hg : g' ≠ g) (cs' : Array Value) : Blk (w.setRow g' cs') g t cs := by
 unfold Blk at h ⊢
 simp [World.setRow, Array.getElem?_modify, h, hg]
theorem setRow_cell {w : World} {g g' i : Nat} {v : Value} (h : w.cell? ⟨g, i, none⟩ = some v) (hg : g' ≠ g) (cs : Array Value) : (w.setRow g' cs).cell? ⟨g, i, none⟩ = some v := by
 unfold World.cell? at h ⊢
 simp only [World.setRow, Array.getElem?_modify, hg, if_false, if_neg] at h ⊢
 exact h
abbrev zSh : Array Value := #[.bool false, .bool false, .bool false, .bool false, .int .i64 0, .int .i64 0, .bool false, .nilFunc]
theorem mayN_eq (x : Nd) : mayN x = (mayL x.kids && nodeP x.k x.name x.text x.n x.names x.kids) := by cases x; rfl
theorem mayL_any (l : List Nd) : mayL l = !(l.any fun x => !mayN x) := by
 induction l with
 | nil => simp [mayL]
 | cons x l ih => rw [List.any_cons, Bool.not_or, Bool.not_not, ← ih]; simp only [mayL]
def ShBox (W0 W : World) (k : Int) (B : Nat) (ok : Bool) : Prop := Ext W0 W ∧ W0.heap.size ≤ B ∧ match shapeP k with
 | none => ok = false
 | some s => ok = true ∧ ∃ F lb bs, Blk W B 128 #[.bool s.name, .bool s.oper, .bool s.text, .bool s.num, .int .i64 (s.least : Int), .int .i64 (s.most : Int), .bool (stmtK k), .func (.func F) #[] lb] ∧ (∀ (args : Array Value) (w : World), (callFunc F args).run Tryz.prog w = .ok (.enter F args) w) ∧ (∀ p ∈ bs, Blk W p.1 3 #[.int .i64 p.2]) ∧ KidsF bs F lb s.kids
def LookE (lo : Nat) (W : World) (k : Int) (sv : Value) (ok : Bool) : Prop := match shapeP k with
 | none => ok = false
 | some s => ok = true ∧ ShV lo W sv s (stmtK k)
theorem look2 {lo : Nat} {W : World} {M : Nat} (h : ShAt lo W M) (k : Int) (hk0 : k ≠ 0) : ∃ sv ok cs, sv = .agg cs ∧ cs.size = 8 ∧ cs.all (·.oneCell') = true ∧ LookE lo W k sv ok ∧ ∀ W', Ext W W' → (Instr.lookup 130 (.map (some M)) (.int .i64 k) true).run Tryz.prog W' = .ok (.tuple #[sv, .bool ok]) W' := by
 unfold LookE
 cases hs : shapeP k with
 | some s =>
  obtain ⟨sv, h1, h2⟩ := h.look k s hs true
  have h3 := h2
  obtain ⟨F, lb, bs, e, _⟩ := h3
  refine ⟨sv, true, _, e, rfl, ?_, ⟨rfl, h2⟩, h1⟩
  rw [Array.all_eq_true']
  intro x hx
  simp only [List.mem_toArray, List.mem_cons, List.not_mem_nil, or_false] at hx
  rcases hx with rfl | rfl | rfl | rfl | rfl | rfl | rfl | rfl <;> rfl
 | none =>
  have hk : ¬ (1 ≤ k ∧ k ≤ 24) := fun hk => by
   rcases kinds_all (by omega) hk.2 with rfl|rfl|rfl|rfl|rfl|rfl|rfl|rfl|rfl|rfl|rfl|rfl|rfl|rfl|rfl|rfl|rfl|rfl|rfl|rfl|rfl|rfl|rfl|rfl|rfl <;> first | omega | (simp [shapeP] at hs)
  refine ⟨_, false, zSh, rfl, rfl, ?_, rfl, fun W' he => (h.ext he).nolook k hk true⟩
  rw [Array.all_eq_true']
  intro x hx
  simp only [List.mem_toArray, List.mem_cons, List.not_mem_nil, or_false] at hx
  rcases hx with rfl | rfl | rfl | rfl | rfl | rfl | rfl | rfl <;> rfl
theorem ShBox.mk' {lo : Nat} {W0 W W1 : World} {k : Int} {B : Nat} {ok : Bool} {cs old : Array Value} (he : Ext W0 W) (hB : W0.heap.size ≤ B) (hz : Blk W B 128 old) (hL : LookE lo W1 k (.agg cs) ok) (h1 : Ext W1 W) (hne : B < lo ∨ W1.heap.size ≤ B) : ShBox W0 (W.setRow B cs) k B ok := by
 refine ⟨setRow_ext he hB cs, hB, ?_⟩
 unfold LookE at hL
 cases hs : shapeP k with
 | none =>
  rw [hs] at hL
  exact hL
 | some s =>
  rw [hs] at hL
  obtain ⟨h2, F, lb, bs, e, h3, h4, h5⟩ := hL
  injection e with e
  subst e
  refine ⟨h2, F, lb, bs, setRow_blk hz _, h3, fun p hp => ?_, h5⟩
  obtain ⟨g1, g2⟩ := h4 p hp
  have g3 := g2.lt
  exact setRow_far (g2.ext h1) (by omega) _
theorem may1_any (w : World) (ok : Nat → Prop) (d : Nat) (v : Value) (x : Nd) (h : NodeAt ok w d v x) (hm : ∀ W, Ext w W → Calls Tryz.prog 42 #[v] W fun e w' => e = .returned (.bool (mayN x)) ∧ Ext W w') :
  Calls Tryz.prog 68 (#[v] ++ #[]) w fun e w' => e = .returned (.bool (!mayN x)) ∧ Ext w w' := by
 have HM := Lib.hid hm
 obtain ⟨qn, cn, ql, cl, rfl, _, _⟩ := h.parts
 have HE := Lib.hid ((Ext.refl w).alloc (ndO x (.slice qn x.names.length cn) (.slice ql x.kids.length cl)))
 clear h hm
 generalize x.names.length = nl at *
 generalize x.kids.length = kl at *
 generalize mayN x = b at *
 go_enter Tryz.func68, Tryz.ntmps68
 go_wp2_with fail
 refine (HM.out _ HE.out).mono ?_
 rintro e w1 ⟨rfl, e1⟩
 have E1 := Lib.hid (HE.out.trans e1)
 clear e1
 go_wp2_with fail
 go_ret
 exact ⟨rfl, E1.out⟩
theorem may_step (w : World) (hL : Laid w) (ok : Nat → Prop) (d : Nat) (k n : Int) (a t : ByteArray) (names : List ByteArray) (kids : List Nd) (qn : Option Addr) (cn : Nat) (ql : Option Addr) (cl : Nat) (hn : TxtsAt ok w (.slice qn names.length cn) names) (hkd : KidsAt ok w d (.slice ql kids.length cl) kids) (hnm : names.length ≤ 140737488355328) (hkm : kids.length ≤ 140737488355328)
  (hsub : SubN w ok d kids fun y v W => Laid W → Calls Tryz.prog 42 #[v] W fun e w' => e = .returned (.bool (mayN y)) ∧ Ext W w') :
  Calls Tryz.prog 42 #[.agg #[.int .i64 k, .string a, .string t, .int .i64 n, .slice qn names.length cn, .slice ql kids.length cl]] w fun e w' => e = .returned (.bool (mayL kids && nodeP k a t n names kids)) ∧ Ext w w' := by
 have HL := Lib.hid hL
 have HC := Lib.hid (fun W (e : Ext w W) => contains_nd (f := 68) (lb := #[]) (p := fun x => !mayN x) W ok d _ kids (hkd.ext e) (by omega) (fun _ _ => rfl)
  (fun y hy W' v' he hnd => may1_any W' ok _ v' y hnd (fun W2 e2 => hsub y hy W2 v' ((e.trans he).trans e2) (hnd.ext e2) (hL.ext ((e.trans he).trans e2)))))
 have HBK := Lib.hid (fun W (e : Ext w W) => pblock_any W ok d _ kids (hkd.ext e) hkm)
 have HNM := Lib.hid (fun W (e : Ext w W) => badnames_any W (hL.ext e) ok _ names (hn.ext e) hnm)
 have HKD := Lib.hid (fun W (e : Ext w W) => hkd.ext e)
 obtain ⟨r, hr⟩ : ∃ r, (mayL kids && nodeP k a t n names kids) = r := ⟨_, rfl⟩
 rw [hr]
 have HR := Lib.hid hr
 obtain ⟨nl, hnl⟩ : ∃ n, names.length = n := ⟨_, rfl⟩
 obtain ⟨kl, hkl⟩ : ∃ n, kids.length = n := ⟨_, rfl⟩
 have HNL := Lib.hid hnl
 have HKL := Lib.hid hkl
 rw [hkl] at HC HBK HKD hkm
 rw [hnl] at HNM hnm
 rw [hnl, hkl]
 have HE := Lib.hid ((Ext.refl w).alloc (.cells #[.int .i64 k, .string a, .string t, .int .i64 n, .slice qn nl cn, .slice ql kl cl] 28))
 have HB := Lib.hid (fun W => nd_box (w := w) (W := W) (x := .mk k a t n names kids) (nv := .slice qn nl cn) (lv := .slice ql kl cl))
 simp only [Nd.k, Nd.name, Nd.text, Nd.n] at HB
 have HML := Lib.hid (mayL_any kids)
 clear hn hkd hsub hr hnl hkl hL
 obtain ⟨cb, hcb⟩ : ∃ b, (kids.any fun x => !mayN x) = b := ⟨_, rfl⟩
 rw [hcb] at HC HML
 clear hcb
 go_enter Tryz.func42, Tryz.ntmps42
 go_wp2_with fail
 refine (HC.out _ HE.out).mono ?_
 rintro e W0 ⟨rfl, e0⟩
 have E0 := Lib.hid (HE.out.trans e0)
 have B0 := Lib.hid e0
 obtain ⟨c0, c1, c2, c3, c4, c5⟩ := HB.out W0 e0
 clear e0 HC
 cases cb with
 | true =>
  have hrr : r = false := by rw [← HR.out, HML.out]; rfl
  subst hrr
  go_wp2_with fail
  go_ret
  exact ⟨rfl, E0.out⟩
 | false =>
  have HR2 : Hid (nodeP k a t n names kids = r) := Lib.hid (by rw [← HR.out, HML.out]; rfl)
  clear HR HML
  by_cases hk0 : k = 0
  ·have g0 : (k == 0) = true := beq_iff_eq.2 hk0
   have HR3 : Hid ((a == eB && t == eB && n == 0 && names.isEmpty && blockFrom kids) = r) := Lib.hid (by rw [← HR2.out, hk0]; rfl)
   clear hk0 HR2
   by_cases ha : a = eB
   rotate_left
   ·obtain ⟨y1, y2, y3, y4⟩ := ne_empty ha
    have hrr : r = false := by rw [← HR3.out, y4]; rfl
    subst hrr
    clear ha y4
    go_wp2_with fail
    go_ret
    exact ⟨rfl, E0.out⟩
   subst ha
   by_cases ht : t = eB
   rotate_left
   ·obtain ⟨y1, y2, y3, y4⟩ := ne_empty ht
    have hrr : r = false := by rw [← HR3.out, y4]; simp
    subst hrr
    clear ht y4
    go_wp2_with fail
    go_ret
    exact ⟨rfl, E0.out⟩
   subst ht
   cases gn : (n == 0) with
   | false =>
    have hrr : r = false := by rw [← HR3.out, gn]; simp
    subst hrr
    go_wp2_with fail
    go_ret
    exact ⟨rfl, E0.out⟩
   | true =>
    by_cases hq : nl = 0
    rotate_left
    ·have z1 : ((nl : Int) == 0) = false := beq_eq_false_iff_ne.2 (by omega)
     have hrr : r = false := by
      have h1 : names.isEmpty = false := by
       cases names with
       | nil => exact absurd HNL.out.symm hq
       | cons _ _ => rfl
      rw [← HR3.out, h1]; simp
     subst hrr
     clear hq
     go_wp2_with fail
     go_ret
     exact ⟨rfl, E0.out⟩
    have z1 : ((nl : Int) == 0) = true := beq_iff_eq.2 (by omega)
    have HR4 : Hid (blockFrom kids = r) := Lib.hid (by
     have h1 : names.isEmpty = true := by rw [List.isEmpty_iff]; exact List.eq_nil_of_length_eq_zero (HNL.out.trans hq)
     rw [← HR3.out, h1, gn, (ba_iff eB eB).2 rfl]; rfl)
    clear hq
    go_wp2_with fail
    refine (HBK.out _ E0.out).mono ?_
    rintro e w1 ⟨rfl, e1⟩
    have E1 := Lib.hid (E0.out.trans e1)
    clear e1
    rw [HR4.out]
    go_wp2_with fail
    go_ret
    exact ⟨rfl, E1.out⟩
  ·have g0 : (k == 0) = false := beq_eq_false_iff_ne.2 hk0
   have HB0 : Hid (w.heap.size < W0.heap.size) := Lib.hid (cell_lt c0)
   go_upto_region 5 with (fail)
   have b0 := c0
   clear c1 c2 c3 c4 c5 c0
   go_cut [3, 4] (fun s3 s4 wx => ∃ B okb, s3 = .pointer (some ⟨B, 0, none⟩) ∧ s4 = .bool okb ∧ Hid (ShBox W0 wx k B okb))
   case first =>
    refine wp_region_held_drew (S := fun w' => w'.cell? ⟨w.heap.size, 0, none⟩ = some (.int .i64 k)) (by kernel_rfl) (b0) (fun hHeld => ?_)
    refine tkH (i := 1) (v := ?_) ?_
    try simp only [Act.put, pzz]
    refine tkH (i := 2) (v := ?_) ?_
    try simp only [Act.put, pzz]
    refine wpAnyH_ready (rs := [0, 7]) (by kernel_rfl) (by simp) ?_
    refine AllReadyH.cons rfl (fun K hK => ?_) ?_
    ·skip
     go_simp
     refine (shapes_any _).mono ?_
     rintro e W2 ⟨M, rfl, hM, eW, hsh⟩
     have E2 := Lib.hid ((Ext.refl W0).drew.trans eW)
     have hS2 := eW.cell hHeld
     have SHH := Lib.hid hsh
     clear hsh hM eW
     clear hHeld
     refine hK.out _ _ (hS2) (fun hHeld => ?_)
     clear hK K
     try simp only [Act.put, pzz]
     refine wpAnyH_ready (rs := [3, 7]) (by kernel_rfl) (by simp) ?_
     refine AllReadyH.cons rfl (fun K hK => ?_) ?_
     ·skip
      obtain ⟨sv, okb, cs, rfl, hcs, hone, hlk, lk0⟩ := look2 SHH.out k hk0
      have lk := lk0 _ (Ext.refl W2)
      have HLK := Lib.hid hlk
      clear lk0
      have HCS := Lib.hid (And.intro hcs hone)
      clear hcs hone hlk
      go_simp
      clear lk
      clear hHeld
      refine hK.out _ _ ?_ (fun hHeld => ?_)
      focus (
       (try dsimp only)
       go_keep)
      clear hK K
      try simp only [Act.put, pzz]
      refine tkH (i := 4) (v := ?_) ?_
      try simp only [Act.put, pzz]
      refine tkH (i := 5) (v := ?_) ?_
      try simp only [Act.put, pzz]
      refine tkH (i := 6) (v := ?_) ?_
      try simp only [Act.put, pzz]
      refine wpAnyH_ready (rs := [7]) (by kernel_rfl) (by simp) ?_
      refine AllReadyH.cons rfl (fun K hK => ?_) AllReadyH.nil
      have HW := Lib.hid (E2.out.alloc (.cells zSh 128))
      have BZ := Lib.hid (Blk.new W2 128 zSh)
      go_simp
      clear hHeld
      refine hK.out _ _ ?_ (fun hHeld => ?_)
      focus (
       (try dsimp only)
       go_keep)
      clear hK K
      try simp only [Act.put, pzz]
      refine wpAnyH_ready (rs := [8]) (by kernel_rfl) (by simp) ?_
      refine AllReadyH.cons rfl (fun K hK => ?_) AllReadyH.nil
      refine step_store_row rfl 128 _ _ rfl (W2.heap.size) rfl cs zSh rfl 128 BZ.out (by rw [HCS.out.1]; kernel_rfl) (by rw [HCS.out.1]; rfl) HCS.out.2 ?_
      have BOX := Lib.hid (ShBox.mk' (W0 := W0) (W1 := W2) (k := k) (ok := okb) (cs := cs) HW.out (E2.out.size) BZ.out HLK.out ((Ext.refl W2).alloc _) (.inr (Nat.le_refl _)))
      have hS3 := setRow_cell hHeld (show (W2.heap.size) ≠ w.heap.size by have h1 := HB0.out; have h2 := E2.out.size; omega) cs
      clear hHeld
      refine hK.out _ _ (hS3) (fun hHeld => ?_)
      clear hK K
      try simp only [Act.put, pzz]
      refine tkH (i := 9) (v := ?_) ?_
      try simp only [Act.put, pzz]
      refine wpAnyH_done (by kernel_rfl) ?_ _
      go_wp2_with fail
      go_meet
      exact ⟨_, okb, rfl, rfl, BOX⟩
     ·skip
      refine AllReadyH.cons rfl (fun K hK => ?_) AllReadyH.nil
      have HW := Lib.hid (E2.out.alloc (.cells zSh 128))
      have BZ := Lib.hid (Blk.new W2 128 zSh)
      go_simp
      clear hHeld
      refine hK.out _ _ ?_ (fun hHeld => ?_)
      focus (
       (try dsimp only)
       go_keep)
      clear hK K
      try simp only [Act.put, pzz]
      refine wpAnyH_ready (rs := [3]) (by kernel_rfl) (by simp) ?_
      refine AllReadyH.cons rfl (fun K hK => ?_) AllReadyH.nil
      obtain ⟨sv, okb, cs, rfl, hcs, hone, hlk, lk0⟩ := look2 SHH.out k hk0
      have lk := lk0 (W2.alloc (.cells zSh 128)) ((Ext.refl W2).alloc _)
      have HLK := Lib.hid hlk
      clear lk0
      have HCS := Lib.hid (And.intro hcs hone)
      clear hcs hone hlk
      go_simp
      clear lk
      clear hHeld
      refine hK.out _ _ ?_ (fun hHeld => ?_)
      focus (
       (try dsimp only)
       go_keep)
      clear hK K
      try simp only [Act.put, pzz]
      refine tkH (i := 4) (v := ?_) ?_
      try simp only [Act.put, pzz]
      refine tkH (i := 5) (v := ?_) ?_
      try simp only [Act.put, pzz]
      refine tkH (i := 6) (v := ?_) ?_
      try simp only [Act.put, pzz]
      refine wpAnyH_ready (rs := [8]) (by kernel_rfl) (by simp) ?_
      refine AllReadyH.cons rfl (fun K hK => ?_) AllReadyH.nil
      refine step_store_row rfl 128 _ _ rfl (W2.heap.size) rfl cs zSh rfl 128 BZ.out (by rw [HCS.out.1]; kernel_rfl) (by rw [HCS.out.1]; rfl) HCS.out.2 ?_
      have BOX := Lib.hid (ShBox.mk' (W0 := W0) (W1 := W2) (k := k) (ok := okb) (cs := cs) HW.out (E2.out.size) BZ.out HLK.out ((Ext.refl W2).alloc _) (.inr (Nat.le_refl _)))
      have hS3 := setRow_cell hHeld (show (W2.heap.size) ≠ w.heap.size by have h1 := HB0.out; have h2 := E2.out.size; omega) cs
      clear hHeld
      refine hK.out _ _ (hS3) (fun hHeld => ?_)
      clear hK K
      try simp only [Act.put, pzz]
      refine tkH (i := 9) (v := ?_) ?_
      try simp only [Act.put, pzz]
      refine wpAnyH_done (by kernel_rfl) ?_ _
      go_wp2_with fail
      go_meet
      exact ⟨_, okb, rfl, rfl, BOX⟩
    ·skip
     refine AllReadyH.cons rfl (fun K hK => ?_) AllReadyH.nil
     have HW := Lib.hid ((Ext.refl W0).drew.alloc (.cells zSh 128))
     have BZ0 := Lib.hid (Blk.new W0.drew 128 zSh)
     go_simp
     clear hHeld
     refine hK.out _ _ ?_ (fun hHeld => ?_)
     focus (
      (try dsimp only)
      go_keep)
     clear hK K
     try simp only [Act.put, pzz]
     refine wpAnyH_ready (rs := [0]) (by kernel_rfl) (by simp) ?_
     refine AllReadyH.cons rfl (fun K hK => ?_) AllReadyH.nil
     go_simp
     refine (shapes_any _).mono ?_
     rintro e W2 ⟨M, rfl, hM, eW, hsh⟩
     have E2 := Lib.hid (HW.out.trans eW)
     have BZ := Lib.hid (BZ0.out.ext eW)
     have hS2 := eW.cell hHeld
     have SHH := Lib.hid hsh
     clear hsh hM eW
     clear hHeld
     refine hK.out _ _ (hS2) (fun hHeld => ?_)
     clear hK K
     try simp only [Act.put, pzz]
     refine wpAnyH_ready (rs := [3]) (by kernel_rfl) (by simp) ?_
     refine AllReadyH.cons rfl (fun K hK => ?_) AllReadyH.nil
     obtain ⟨sv, okb, cs, rfl, hcs, hone, hlk, lk0⟩ := look2 SHH.out k hk0
     have lk := lk0 _ (Ext.refl W2)
     have HLK := Lib.hid hlk
     clear lk0
     have HCS := Lib.hid (And.intro hcs hone)
     clear hcs hone hlk
     go_simp
     clear lk
     clear hHeld
     refine hK.out _ _ ?_ (fun hHeld => ?_)
     focus (
      (try dsimp only)
      go_keep)
     clear hK K
     try simp only [Act.put, pzz]
     refine tkH (i := 4) (v := ?_) ?_
     try simp only [Act.put, pzz]
     refine tkH (i := 5) (v := ?_) ?_
     try simp only [Act.put, pzz]
     refine tkH (i := 6) (v := ?_) ?_
     try simp only [Act.put, pzz]
     refine wpAnyH_ready (rs := [8]) (by kernel_rfl) (by simp) ?_
     refine AllReadyH.cons rfl (fun K hK => ?_) AllReadyH.nil
     refine step_store_row rfl 128 _ _ rfl (W0.heap.size) rfl cs zSh rfl 128 BZ.out (by rw [HCS.out.1]; kernel_rfl) (by rw [HCS.out.1]; rfl) HCS.out.2 ?_
     have BOX := Lib.hid (ShBox.mk' (W0 := W0) (W1 := W2) (k := k) (ok := okb) (cs := cs) E2.out (Nat.le_refl _) BZ.out HLK.out (Ext.refl _) (.inl (Nat.lt_of_lt_of_le (Nat.lt_succ_self _) (Nat.le_of_eq (size_alloc W0 (.cells zSh 128)).symm))))
     have hS3 := setRow_cell hHeld (show (W0.heap.size) ≠ w.heap.size by have h1 := HB0.out; have h2 := E2.out.size; omega) cs
     clear hHeld
     refine hK.out _ _ (hS3) (fun hHeld => ?_)
     clear hK K
     try simp only [Act.put, pzz]
     refine tkH (i := 9) (v := ?_) ?_
     try simp only [Act.put, pzz]
     refine wpAnyH_done (by kernel_rfl) ?_ _
     go_wp2_with fail
     go_meet
     exact ⟨_, okb, rfl, rfl, BOX⟩
   case rest =>
    obtain ⟨B, okb, rfl, rfl, HBX⟩ := hcut
    obtain ⟨W1, rfl⟩ : ∃ W1 : World, W1 = wc := ⟨_, rfl⟩
    have HNZ := Lib.hid hk0
    clear b0 hk0
    obtain ⟨x1, x2, x3⟩ := HBX.out
    have E1 := Lib.hid (E0.out.trans x1)
    have B1 := Lib.hid (B0.out.trans x1)
    clear HBX x2
    cases hs : shapeP k with
    | none =>
     rw [hs] at x3
     obtain rfl := x3
     have hrr : r = false := by rw [← HR2.out]; unfold nodeP; rw [if_neg HNZ.out, hs]
     subst hrr
     clear hs x1
     go_wp2_with fail
     go_ret
     exact ⟨rfl, E1.out⟩
    | some s =>
     rw [hs] at x3
     obtain ⟨rfl, FF, lb, bs, hbx, hF, hbs, hkf⟩ := x3
     have HSB := Lib.hid (fun W (e : Ext W1 W) => hbx.ext e)
     have HKF := Lib.hid (fun W (e : Ext w W) (e1 : Ext W1 W) => hkf W ok d _ kids (fun p hp => (hbs p hp).ext e1) (HKD.out W e) (by rw [HKL.out]; exact hkm))
     have HND : Hid ((s.kids kids && decide (s.least ≤ nl) && decide (nl ≤ s.most) && names.all (fun x => nameP x.data.toList) &&
       (!s.name || nameP a.data.toList) && (!s.oper || operB a.data.toList) && (s.name || s.oper || a == eB) &&
       (s.text || t == eB) && (s.num || n == 0) && decide (0 ≤ n) && (!(k == 1) || decide (kl ≤ nl))) = r) := Lib.hid (by
      have h1 := HR2.out
      unfold nodeP at h1
      rw [if_neg HNZ.out, hs] at h1
      simp only [HNL.out, HKL.out] at h1
      exact h1)
     clear hs hkf hbs HR2 hbx
     obtain ⟨sn, so, st, su, lo, hi, sk⟩ := s
     simp only at HSB HKF HND
     obtain ⟨c0, c1, c2, c3, c4, c5⟩ := HB.out W1 B1.out
     have hb := HSB.out W1 (Ext.refl _)
     have q0 := hb.cell 0
     have q1 := hb.cell 1
     have q2 := hb.cell 2
     have q3 := hb.cell 3
     have q4 := hb.cell 4
     have q5 := hb.cell 5
     have q7 := hb.cell 7
     simp only [List.getElem?_toArray, List.getElem?_cons_zero, List.getElem?_cons_succ] at q0 q1 q2 q3 q4 q5 q7
     clear hb x1
     go_wp2_with fail
     refine (HKF.out W1 E1.out (Ext.refl _)).mono ?_
     rintro e W2 ⟨rfl, e2⟩
     have E2 := Lib.hid (E1.out.trans e2)
     have B2 := Lib.hid (B1.out.trans e2)
     have S2 := Lib.hid e2
     clear q0 q1 q2 q3 q4 q5 q7 c0 c1 c2 c3 c4 c5
     obtain ⟨c0, c1, c2, c3, c4, c5⟩ := HB.out W2 B2.out
     have hb := HSB.out W2 S2.out
     have q0 := hb.cell 0
     have q1 := hb.cell 1
     have q2 := hb.cell 2
     have q3 := hb.cell 3
     have q4 := hb.cell 4
     have q5 := hb.cell 5
     simp only [List.getElem?_toArray, List.getElem?_cons_zero, List.getElem?_cons_succ] at q0 q1 q2 q3 q4 q5
     clear hb e2
     cases hk1 : sk kids with
     | false =>
      have hrr : r = false := by rw [← HND.out, hk1]; rfl
      subst hrr
      go_wp2_with fail
      go_ret
      exact ⟨rfl, E2.out⟩
     | true =>
      have HN2 := HND.out
      rw [hk1, Bool.true_and] at HN2
      have HND2 := Lib.hid HN2
      clear HN2 HND hk1 HKF
      by_cases hlo : (nl : Int) < (lo : Int)
      ·have d1 : decide ((nl : Int) < (lo : Int)) = true := decide_eq_true hlo
       have d2 : decide (nl < lo) = true := decide_eq_true (by omega)
       have hrr : r = false := by rw [← HND2.out, decide_eq_false (show ¬ lo ≤ nl by omega)]; rfl
       subst hrr
       clear hlo
       go_wp2_with fail
       go_ret
       exact ⟨rfl, E2.out⟩
      have d1 : decide ((nl : Int) < (lo : Int)) = false := decide_eq_false hlo
      have d2 : decide (nl < lo) = false := decide_eq_false (by omega)
      by_cases hhi : (hi : Int) < (nl : Int)
      ·have d3 : decide ((hi : Int) < (nl : Int)) = true := decide_eq_true hhi
       have d4 : decide (hi < nl) = true := decide_eq_true (by omega)
       have hrr : r = false := by rw [← HND2.out, decide_eq_false (show ¬ nl ≤ hi by omega)]; simp
       subst hrr
       clear hlo hhi
       go_wp2_with fail
       go_ret
       exact ⟨rfl, E2.out⟩
      have d3 : decide ((hi : Int) < (nl : Int)) = false := decide_eq_false hhi
      have d4 : decide (hi < nl) = false := decide_eq_false (by omega)
      have HN2 := HND2.out
      rw [decide_eq_true (show lo ≤ nl by omega), decide_eq_true (show nl ≤ hi by omega), Bool.true_and, Bool.true_and] at HN2
      have HND3 := Lib.hid HN2
      clear HN2 HND2 hlo hhi
      go_wp2_with fail
      refine (HNM.out W2 E2.out).mono ?_
      rintro e W3 ⟨rfl, e3⟩
      have E3 := Lib.hid (E2.out.trans e3)
      have B3 := Lib.hid (B2.out.trans e3)
      have S3 := Lib.hid (S2.out.trans e3)
      clear q0 q1 q2 q3 q4 q5 c0 c1 c2 c3 c4 c5 HNM d1 d2 d3 d4
      obtain ⟨c0, c1, c2, c3, c4, c5⟩ := HB.out W3 B3.out
      have hb := HSB.out W3 S3.out
      have q0 := hb.cell 0
      have q1 := hb.cell 1
      have q2 := hb.cell 2
      have q3 := hb.cell 3
      simp only [List.getElem?_toArray, List.getElem?_cons_zero, List.getElem?_cons_succ] at q0 q1 q2 q3
      clear hb e3
      cases hna : names.all (fun x => nameP x.data.toList) with
      | false =>
       have hrr : r = false := by rw [← HND3.out, hna]; rfl
       subst hrr
       clear hna
       go_wp2_with fail
       go_ret
       exact ⟨rfl, E3.out⟩
      | true =>
       have HN2 := HND3.out
       rw [hna, Bool.true_and] at HN2
       have HND4 := Lib.hid HN2
       clear HN2 HND3 hna
       go_upto_region 8 with (fail)
       go_cut [74] (fun s74 wx => ∃ bad : Bool, s74 = .bool bad ∧ Hid (Ext W3 wx) ∧ Hid ((!bad && (st || t == eB) && (su || n == 0) && decide (0 ≤ n) && (!(k == 1) || decide (kl ≤ nl))) = r))
       case first =>
        cases sn with
        | true =>
         go_wp2_with fail
         refine (name_any W3 a (HL.out.ext E3.out).asc).mono ?_
         rintro e W4 ⟨rfl, e4⟩
         have X4 := Lib.hid e4
         have r1 := (HSB.out W4 (S3.out.trans e4)).cell 1
         have r0 := (HSB.out W4 (S3.out.trans e4)).cell 0
         have ra := (HB.out W4 (B3.out.trans e4)).2.1
         simp only [List.getElem?_toArray, List.getElem?_cons_zero, List.getElem?_cons_succ] at r0 r1
         clear e4 q0 q1 q2 q3 c0 c1 c2 c3 c4 c5
         cases hna : nameP a.data.toList with
         | false =>
          have HF := HND4.out
          rw [hna] at HF
          have HF2 : Hid (false = r) := Lib.hid (by rw [← HF]; rfl)
          clear HF hna
          go_wp2_with fail
          go_meet
          exact ⟨true, rfl, X4, Lib.hid (by rw [← HF2.out]; rfl)⟩
         | true =>
          have HF := HND4.out
          rw [hna] at HF
          cases so with
          | true =>
           have HFF := Lib.hid HF
           clear HF hna
           go_wp2_with fail
           refine (operators_any W4 a).mono ?_
           rintro e W5 ⟨rfl, e5⟩
           have X5 := Lib.hid (X4.out.trans e5)
           clear r0 r1 ra
           have r0 := (HSB.out W5 (S3.out.trans X5.out)).cell 0
           simp only [List.getElem?_toArray, List.getElem?_cons_zero, List.getElem?_cons_succ] at r0
           clear e5
           have HF := HFF.out
           cases hop : operB a.data.toList with
           | false =>
            rw [hop] at HF
            have HF2 : Hid (false = r) := Lib.hid (by rw [← HF]; rfl)
            clear HF hop HFF
            go_wp2_with fail
            go_meet
            exact ⟨true, rfl, X5, Lib.hid (by rw [← HF2.out]; rfl)⟩
           | true =>
            rw [hop] at HF
            have HF2 : Hid (((st || t == eB) && (su || n == 0) && decide (0 ≤ n) && (!(k == 1) || decide (kl ≤ nl))) = r) := Lib.hid (by rw [← HF]; simp)
            clear HF hop HFF
            go_wp2_with fail
            go_meet
            exact ⟨false, rfl, X5, Lib.hid (by rw [← HF2.out]; rfl)⟩
          | false =>
           have HF2 : Hid (((st || t == eB) && (su || n == 0) && decide (0 ≤ n) && (!(k == 1) || decide (kl ≤ nl))) = r) := Lib.hid (by rw [← HF]; simp)
           clear HF hna
           go_wp2_with fail
           go_meet
           exact ⟨false, rfl, X4, Lib.hid (by rw [← HF2.out]; rfl)⟩
        | false =>
         cases so with
         | true =>
          go_wp2_with fail
          refine (operators_any W3 a).mono ?_
          rintro e W5 ⟨rfl, e5⟩
          have X5 := Lib.hid e5
          have r0 := (HSB.out W5 (S3.out.trans e5)).cell 0
          have r1 := (HSB.out W5 (S3.out.trans e5)).cell 1
          simp only [List.getElem?_toArray, List.getElem?_cons_zero, List.getElem?_cons_succ] at r0 r1
          clear e5 q0 q1 q2 q3 c0 c1 c2 c3 c4 c5
          have HF := HND4.out
          cases hop : operB a.data.toList with
          | false =>
           rw [hop] at HF
           have HF2 : Hid (false = r) := Lib.hid (by rw [← HF]; rfl)
           clear HF hop
           go_wp2_with fail
           go_meet
           exact ⟨true, rfl, X5, Lib.hid (by rw [← HF2.out]; rfl)⟩
          | true =>
           rw [hop] at HF
           have HF2 : Hid (((st || t == eB) && (su || n == 0) && decide (0 ≤ n) && (!(k == 1) || decide (kl ≤ nl))) = r) := Lib.hid (by rw [← HF]; simp)
           clear HF hop
           go_wp2_with fail
           go_meet
           exact ⟨false, rfl, X5, Lib.hid (by rw [← HF2.out]; rfl)⟩
         | false =>
          have HF := HND4.out
          by_cases ha : a = eB
          ·subst ha
           have HF2 : Hid (((st || t == eB) && (su || n == 0) && decide (0 ≤ n) && (!(k == 1) || decide (kl ≤ nl))) = r) := Lib.hid (by rw [← HF, (ba_iff eB eB).2 rfl]; simp)
           clear HF
           go_wp2_with fail
           go_meet
           exact ⟨false, rfl, Lib.hid (Ext.refl _), Lib.hid (by rw [← HF2.out]; rfl)⟩
          ·obtain ⟨y1, y2, y3, y4⟩ := ne_empty ha
           have HF2 : Hid (false = r) := Lib.hid (by rw [← HF, y4]; simp)
           clear HF ha y4
           go_wp2_with fail
           go_meet
           exact ⟨true, rfl, Lib.hid (Ext.refl _), Lib.hid (by rw [← HF2.out]; rfl)⟩
       case rest =>
        obtain ⟨bad, rfl, X4, HND5⟩ := hcut
        obtain ⟨W4, rfl⟩ : ∃ W4 : World, W4 = wc := ⟨_, rfl⟩
        have E4 := Lib.hid (E3.out.trans X4.out)
        clear q0 q1 q2 q3 c0 c1 c2 c3 c4 c5 HND4
        obtain ⟨c0, c1, c2, c3, c4, c5⟩ := HB.out _ (B3.out.trans X4.out)
        have hb := HSB.out _ (S3.out.trans X4.out)
        have q2 := hb.cell 2
        have q3 := hb.cell 3
        simp only [List.getElem?_toArray, List.getElem?_cons_zero, List.getElem?_cons_succ] at q2 q3
        clear hb
        cases bad with
        | true =>
         have hrr : r = false := by rw [← HND5.out]; rfl
         subst hrr
         go_wp2_with fail
         go_ret
         exact ⟨rfl, E4.out⟩
        | false =>
         have HND6 : Hid (((st || t == eB) && (su || n == 0) && decide (0 ≤ n) && (!(k == 1) || decide (kl ≤ nl))) = r) := Lib.hid (by rw [← HND5.out]; rfl)
         clear HND5
         have last : ∀ (_ : (!(k == 1) || decide (kl ≤ nl)) = r), r = (!(k == 1) || decide ((kl : Int) ≤ (nl : Int))) := fun h => by
          rw [← h]
          congr 1
          rw [Bool.eq_iff_iff, decide_eq_true_eq, decide_eq_true_eq]; omega
         have LAST := Lib.hid last
         have e1' : (k != 1) = !(k == 1) := rfl
         clear last
         have tx : st = true ∨ (st = false ∧ t = eB) ∨ (st = false ∧ ¬ t = eB) := by
          cases st with
          | true => exact .inl rfl
          | false =>
           by_cases h : t = eB
           ·exact .inr (.inl ⟨rfl, h⟩)
           ·exact .inr (.inr ⟨rfl, h⟩)
         have nx : su = true ∨ (su = false ∧ n = 0) ∨ (su = false ∧ ¬ n = 0) := by
          cases su with
          | true => exact .inl rfl
          | false =>
           by_cases h : n = 0
           ·exact .inr (.inl ⟨rfl, h⟩)
           ·exact .inr (.inr ⟨rfl, h⟩)
         have TXX := Lib.hid tx
         have NXX := Lib.hid nx
         clear tx nx
         rcases TXX.out with rfl | ⟨rfl, rfl⟩ | ⟨rfl, ht⟩
         ·have HND7 : Hid (((su || n == 0) && decide (0 ≤ n) && (!(k == 1) || decide (kl ≤ nl))) = r) := Lib.hid (by rw [← HND6.out]; simp)
          clear HND6 TXX
          rcases NXX.out with rfl | ⟨rfl, rfl⟩ | ⟨rfl, hz⟩
          ·clear NXX
           by_cases hneg : n < 0
           ·have d1 : decide (n < 0) = true := decide_eq_true hneg
            have hrr : r = false := by rw [← HND7.out, decide_eq_false (show ¬ 0 ≤ n by omega)]; simp
            subst hrr
            clear hneg LAST
            go_wp2_with fail
            go_ret
            exact ⟨rfl, E4.out⟩
           ·have d1 : decide (n < 0) = false := decide_eq_false hneg
            have hrr := LAST.out (by rw [← HND7.out, decide_eq_true (show 0 ≤ n by omega)]; simp)
            subst hrr
            clear hneg LAST HND7
            cases hk1 : (k == 1) with
            | true =>
             rw [hk1] at e1'
             go_wp2_with fail
             go_ret
             exact ⟨by simp [hk1], E4.out⟩
            | false =>
             rw [hk1] at e1'
             go_wp2_with fail
             go_ret
             exact ⟨by simp [hk1], E4.out⟩
          ·clear NXX
           have hrr := LAST.out (by rw [← HND7.out]; simp)
           subst hrr
           clear LAST HND7
           cases hk1 : (k == 1) with
           | true =>
            rw [hk1] at e1'
            go_wp2_with fail
            go_ret
            exact ⟨by simp [hk1], E4.out⟩
           | false =>
            rw [hk1] at e1'
            go_wp2_with fail
            go_ret
            exact ⟨by simp [hk1], E4.out⟩
          ·have y1 : (n != 0) = true := bne_iff_ne.2 hz
           have y2 : (n == 0) = false := beq_eq_false_iff_ne.2 hz
           have hrr : r = false := by rw [← HND7.out, y2]; simp
           subst hrr
           clear hz LAST HND7 NXX
           go_wp2_with fail
           go_ret
           exact ⟨rfl, E4.out⟩
         ·have HND7 : Hid (((su || n == 0) && decide (0 ≤ n) && (!(k == 1) || decide (kl ≤ nl))) = r) := Lib.hid (by rw [← HND6.out, (ba_iff eB eB).2 rfl]; simp)
          clear HND6 TXX
          rcases NXX.out with rfl | ⟨rfl, rfl⟩ | ⟨rfl, hz⟩
          ·clear NXX
           by_cases hneg : n < 0
           ·have d1 : decide (n < 0) = true := decide_eq_true hneg
            have hrr : r = false := by rw [← HND7.out, decide_eq_false (show ¬ 0 ≤ n by omega)]; simp
            subst hrr
            clear hneg LAST
            go_wp2_with fail
            go_ret
            exact ⟨rfl, E4.out⟩
           ·have d1 : decide (n < 0) = false := decide_eq_false hneg
            have hrr := LAST.out (by rw [← HND7.out, decide_eq_true (show 0 ≤ n by omega)]; simp)
            subst hrr
            clear hneg LAST HND7
            cases hk1 : (k == 1) with
            | true =>
             rw [hk1] at e1'
             go_wp2_with fail
             go_ret
             exact ⟨by simp [hk1], E4.out⟩
            | false =>
             rw [hk1] at e1'
             go_wp2_with fail
             go_ret
             exact ⟨by simp [hk1], E4.out⟩
          ·clear NXX
           have hrr := LAST.out (by rw [← HND7.out]; simp)
           subst hrr
           clear LAST HND7
           cases hk1 : (k == 1) with
           | true =>
            rw [hk1] at e1'
            go_wp2_with fail
            go_ret
            exact ⟨by simp [hk1], E4.out⟩
           | false =>
            rw [hk1] at e1'
            go_wp2_with fail
            go_ret
            exact ⟨by simp [hk1], E4.out⟩
          ·have y1 : (n != 0) = true := bne_iff_ne.2 hz
           have y2 : (n == 0) = false := beq_eq_false_iff_ne.2 hz
           have hrr : r = false := by rw [← HND7.out, y2]; simp
           subst hrr
           clear hz LAST HND7 NXX
           go_wp2_with fail
           go_ret
           exact ⟨rfl, E4.out⟩
         ·obtain ⟨y1, y2, y3, y4⟩ := ne_empty ht
          have hrr : r = false := by rw [← HND6.out, y4]; simp
          subst hrr
          clear ht y4 LAST HND6 NXX TXX
          go_wp2_with fail
          go_ret
          exact ⟨rfl, E4.out⟩
theorem pmay_any : ∀ (d : Nat) (w : World) (ok : Nat → Prop) (v : Value) (x : Nd), Laid w → SzN x → NodeAt ok w d v x → Calls Tryz.prog 42 #[v] w fun e w' => e = .returned (.bool (mayN x)) ∧ Ext w w'
 | 0, w, ok, v, x, hL, hs, h => by
  obtain ⟨qn, cn, ql, cl, rfl, hn, hk⟩ := h.parts
  rw [mayN_eq]
  exact may_step w hL ok 0 x.k x.n x.name x.text x.names x.kids qn cn ql cl hn hk hs.out.names hs.out.kids (SubN.zero hk)
 | d + 1, w, ok, v, x, hL, hs, h => by
  obtain ⟨qn, cn, ql, cl, rfl, hn, hk⟩ := h.parts
  rw [mayN_eq]
  exact may_step w hL ok (d + 1) x.k x.n x.name x.text x.names x.kids qn cn ql cl hn hk hs.out.names hs.out.kids (fun y hy W v' _ hn hL' => pmay_any d W ok v' y hL' (hs.out.sub y hy) hn)
theorem check_any (d : Nat) (w : World) (hL : Laid w) (ok : Nat → Prop) (v : Value) (x : Nd) (hs : SzN x) (h : NodeAt ok w d v x) :
  Calls Tryz.prog 20 #[v] w fun e w' => e = .returned (.int .i64 (if checkN x then 0 else 2)) ∧ Ext w w' := by
 have HD := Lib.hid (fun W (e : Ext w W) => deep_any 100 (by omega) W ok d v x hs (h.ext e))
 have HM := Lib.hid (fun W (e : Ext w W) => pmay_any d W ok v x (hL.ext e) hs (h.ext e))
 obtain ⟨r, hr⟩ : ∃ r, checkN x = r := ⟨_, rfl⟩
 rw [hr]
 have HR := Lib.hid (show (x.k == 0 && deepN 100 x && mayN x) = r from hr)
 obtain ⟨qn, cn, ql, cl, rfl, _, _⟩ := h.parts
 have HE := Lib.hid ((Ext.refl w).alloc (ndO x (.slice qn x.names.length cn) (.slice ql x.kids.length cl)))
 have HBX := Lib.hid (fun W => nd_box (w := w) (W := W) (x := x) (nv := .slice qn x.names.length cn) (lv := .slice ql x.kids.length cl))
 have e0 : (x.k != 0) = !(x.k == 0) := rfl
 clear h hs hr hL
 generalize x.names.length = nl at *
 generalize x.kids.length = kl at *
 cases h0 : (x.k == 0) with
 | false =>
  rw [h0] at e0
  have hrr : r = false := by rw [← HR.out, h0]; rfl
  subst hrr
  go_enter Tryz.func20, Tryz.ntmps20
  go_wp2_with fail
  go_ret
  exact ⟨rfl, HE.out⟩
 | true =>
  rw [h0] at e0
  have HR2 : Hid ((deepN 100 x && mayN x) = r) := Lib.hid (by rw [← HR.out, h0]; rfl)
  clear HR
  go_enter Tryz.func20, Tryz.ntmps20
  go_wp2_with fail
  refine (HD.out _ HE.out).mono ?_
  rintro e w1 ⟨rfl, e1⟩
  have E1 := Lib.hid (HE.out.trans e1)
  obtain ⟨c0, c1, c2, c3, c4, c5⟩ := HBX.out w1 e1
  clear e1 HD
  cases hd : deepN 100 x with
  | false =>
   have hrr : r = false := by rw [← HR2.out, hd]; rfl
   subst hrr
   clear hd
   go_wp2_with fail
   go_ret
   exact ⟨rfl, E1.out⟩
  | true =>
   have HR3 : Hid (mayN x = r) := Lib.hid (by rw [← HR2.out, hd]; rfl)
   clear hd
   go_wp2_with fail
   refine (HM.out _ E1.out).mono ?_
   rintro e w2 ⟨rfl, e2⟩
   have E2 := Lib.hid (E1.out.trans e2)
   clear e2 HM
   rw [HR3.out]
   cases r with
   | true =>
    go_wp2_with fail
    go_ret
    exact ⟨rfl, E2.out⟩
   | false =>
    go_wp2_with fail
    go_ret
    exact ⟨rfl, E2.out⟩
end Go.Proofs.YtkbcnacjaakleaaGreatDoor
