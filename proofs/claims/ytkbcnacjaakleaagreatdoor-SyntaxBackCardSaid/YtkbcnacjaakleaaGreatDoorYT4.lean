/- The teller: every expression; a block; what stands behind a statement. The teller: an if. -/
import Derived.Test.YtkbcnacjaakleaaGreatDoorYT3
set_option maxRecDepth 100000
set_option maxHeartbeats 32000000
set_option linter.unusedVariables false
set_option linter.unusedSimpArgs false
namespace Go.Proofs.YtkbcnacjaakleaaGreatDoor
open Go.RowKit

theorem texpr_all : ∀ x : Nd, ∀ d, (exprK x.k = true → mayN x = true → SzN x → XC d x) ∧ (∀ a ∈ x.kids, exprK a.k = true → mayN a = true → SzN a → XC d a) := by
 refine Nd.ind fun x ih d => ⟨fun hk hm hs => ?_, fun a ha => (ih a ha d).1⟩
 have hmk := (may_node hm).2
 have hsk := hs.out.sub
 have hkl := hs.out.kids
 have sub : ∀ y, y ∈ x.kids → exprK y.k = true → XC (d - 1) y := fun y hy he => (ih y hy (d - 1)).1 he (hmk y hy) (hsk y hy)
 intro W T v l u hn hg hb
 rcases exprK_in hk with e | e | e | e | e | e | e | e | e | e | e | e | e
 ·exact texpr_10 W T v l u d x e hn hg hb
 ·exact texpr_11 W T v l u d x e hn hg hb
 ·exact texpr_12 W T v l u d x e hn hg hb
 ·exact texpr_13 W T v l u d x e hn hg hb
 ·exact texpr_14 W T v l u d x e hn hg hb
 ·exact texpr_15 W T v l u d x e hn hg hb
 ·obtain ⟨y, z, hks, h1, h2⟩ := kids_16 hm e
  exact texpr_16 W T v l u d x y z e hks (sub y (by rw [hks]; simp) h1) (sub z (by rw [hks]; simp) h2) hn hg hb
 ·exact texpr_17 W T v l u d x e (fun y hy => sub y hy (kids_17 hm e y hy)) hkl hn hg hb
 ·refine texpr_18 W T v l u d x e (fun y hy => ?_) hkl hn hg hb
  have hmy := hmk y hy
  have hsy := hsk y hy
  rcases kids_18 hm e y hy with e2 | e2
  ·obtain ⟨a, hks, h1⟩ := kids_19 hmy e2
   have ha : a ∈ y.kids := by rw [hks]; simp
   exact .inl ⟨e2, a, hks, (ih y hy (d - 1 - 1)).2 a ha h1 ((may_node hmy).2 a ha) (hsy.out.sub a ha)⟩
  ·obtain ⟨a, b, hks, h1, h2⟩ := kids_20 hmy e2
   have ha : a ∈ y.kids := by rw [hks]; simp
   have hb : b ∈ y.kids := by rw [hks]; simp
   exact .inr ⟨e2, a, b, hks, (ih y hy (d - 1 - 1)).2 a ha h1 ((may_node hmy).2 a ha) (hsy.out.sub a ha), (ih y hy (d - 1 - 1)).2 b hb h2 ((may_node hmy).2 b hb) (hsy.out.sub b hb)⟩
 ·obtain ⟨y, z, hks, h1, h2⟩ := kids_21 hm e
  exact texpr_21 W T v l u d x y z e hks (sub y (by rw [hks]; simp) h1) (sub z (by rw [hks]; simp) h2) hn hg hb
 ·obtain ⟨y, hks, h1⟩ := kids_22 hm (.inl e)
  exact texpr_22 W T v l u d x e y hks (sub y (by rw [hks]; simp) h1) hn hg hb
 ·obtain ⟨y, hks, h1⟩ := kids_22 hm (.inr (.inl e))
  exact texpr_23 W T v l u d x e y hks (sub y (by rw [hks]; simp) h1) hn hg hb
 ·obtain ⟨y, hks, h1⟩ := kids_22 hm (.inr (.inr e))
  exact texpr_24 W T v l u d x e y hks (sub y (by rw [hks]; simp) h1) hn hg hb
def SC (d : Nat) (x : Nd) : Prop := ∀ (W : World) (T : Nat) (v : Value) (l : List Wd) (u : Value), NodeAt (· < T) W d u x → TG T W v [] W v l → l.length + (tellN x).length ≤ 1000000000 →
 Calls Tryz.prog 78 #[.pointer (some ⟨T, 0, none⟩), u] W (TellE T W v l (tellN x))
def BC (d : Nat) (x : Nd) : Prop := ∀ (W : World) (T : Nat) (v : Value) (l : List Wd) (u : Value), NodeAt (· < T) W d u x → TG T W v [] W v l → l.length + (tellN x).length ≤ 1000000000 →
 Calls Tryz.prog 47 #[.pointer (some ⟨T, 0, none⟩), u] W (TellE T W v l (tellN x))
theorem flat_le {M : List (List Wd)} {j : Nat} (hj : j < M.length) : ((M.take (j + 1)).flatMap (· ++ [sgW [59]])).length ≤ (M.flatMap (· ++ [sgW [59]])).length := by
 conv => rhs; rw [← List.take_append_drop (j + 1) M, List.flatMap_append, List.length_append]
 exact Nat.le_add_right _ _
theorem tblock_any (d : Nat) (x : Nd) (hx : x.k = 0) (hX : ∀ y ∈ x.kids, SC (d - 1) y) (hs : x.kids.length ≤ 140737488355328) : BC d x := by
 intro w T v l u hn h hb
 have HTX := Lib.hid (show tellN x = (x.kids.map tellN).flatMap (· ++ [sgW [59]]) by rw [tellN_eq]; simp [hx, tellK])
 rw [HTX.out] at hb ⊢
 obtain ⟨qn, cn, ql, cl, rfl, _, hk⟩ := hn.parts
 obtain ⟨n, hnn⟩ : ∃ n, x.kids.length = n := ⟨_, rfl⟩
 have HN := Lib.hid hnn
 obtain ⟨M, hM⟩ : ∃ M, x.kids.map tellN = M := ⟨_, rfl⟩
 have hMl : M.length = n := by rw [← hM, List.length_map, hnn]
 rw [hM] at hb ⊢
 have HKS := Lib.hid hk
 have HS0 := Lib.hid (h.newK (ndO x (.slice qn x.names.length cn) (.slice ql x.kids.length cl)))
 rw [hnn] at hs ⊢
 have HS0' := Lib.hid (show TG T w v [(w.heap.size, ndO x (.slice qn x.names.length cn) (.slice ql n cl))] (w.alloc (ndO x (.slice qn x.names.length cn) (.slice ql n cl))) v l by rw [← hnn]; exact HS0.out)
 have HM := Lib.hid hM
 have HML := Lib.hid hMl
 have HX := Lib.hid hX
 have HL := Lib.hid hb
 generalize x.names.length = nn at *
 have l0 := h.blk.lt
 clear h hk hn hnn hM hMl hX hb HS0 hx
 go_enter Tryz.func47, Tryz.ntmps47
 go_upto_region 1 with (fail)
 generalize w.alloc (ndO x (.slice qn nn cn) (.slice ql n cl)) = Wb at *
 obtain ⟨b0, b1, b2, b3, b4, b5, bl⟩ := HS0'.out.nbox
 go_wp2_with fail
 clear b0 b1 b2 b3 b4 b5 bl
 go_loopw [9] (fun i wr => ∃ (j : Nat) (v' : Value), i = .int .i64 (j : Int) ∧ j ≤ n ∧ Hid (TG T w v [] wr v' (l ++ (M.take j).flatMap (· ++ [sgW [59]])))) (fun i _ => n - (intOf i).toNat)
 case atStart => exact ⟨0, v, rfl, Nat.zero_le _, Lib.hid (by simpa using HS0'.out.nob)⟩
 case round =>
  obtain ⟨j, v', rfl, hj, HS⟩ := hrel
  by_cases hlt : j < n
  ·have jl : j < x.kids.length := by rw [HN.out]; exact hlt
   have jM : j < M.length := by rw [HML.out]; exact hlt
   obtain ⟨b, o, qn2, cn2, ql2, cl2, hq, gw, c0, c1, c2, c3, c4, c5, hnd⟩ := HS.out.kid HKS.out jl
   have hT := flat_take (· ++ [sgW [59]]) jM
   have hMj : M[j] = tellN x.kids[j] := by simp [← HM.out]
   rw [hMj] at hT
   have hXY := HX.out x.kids[j] (List.getElem_mem jl)
   have hle := flat_le jM
   obtain ⟨y, hy⟩ : ∃ y, x.kids[j] = y := ⟨_, rfl⟩
   rw [hy] at c0 c1 c2 c3 c4 c5 hnd hT hXY
   generalize y.names.length = yn at *
   generalize y.kids.length = yk at *
   have HND := Lib.hid hnd
   have HXY := Lib.hid hXY
   have i0 : (0 : Int) ≤ (j : Int) := by omega
   have i1 : (j : Int) < (n : Int) := by omega
   have i2 : decide ((j : Int) < (n : Int)) = true := decide_eq_true i1
   have HT := Lib.hid hT
   have HB := Lib.hid (show l.length + ((M.take (j + 1)).flatMap (· ++ [sgW [59]])).length ≤ 1000000000 by have := HL.out; omega)
   have HSY := Lib.hid (HS.out.newK (ndO y (.slice qn2 yn cn2) (.slice ql2 yk cl2)))
   clear hT hMj jM jl hy hnd hle hXY
   cases hq
   clear HS0'
   go_wp2_with fail
   generalize wr.alloc (ndO y (.slice qn2 yn cn2) (.slice ql2 yk cl2)) = W0 at *
   clear c0 c1 c2 c3 c4 c5
   refine (HXY.out W0 T v' _ _ (HSY.out.node HND.out) HSY.out.self (by have := HB.out; rw [HT.out] at this; simp at this ⊢; omega)).mono ?_
   rintro e w1 ⟨⟨_, rfl⟩, v1, S1⟩
   have HS1 := Lib.hid (HSY.out.call S1)
   clear S1
   go_wp2_with fail
   refine (tsign1 w1 T v1 _ ⟨#[59]⟩ HS1.out.self (by have := HB.out; rw [HT.out] at this; simp at this ⊢; omega)).mono ?_
   rintro e w2 ⟨⟨_, rfl⟩, v2, S2⟩
   have HS2 := Lib.hid (show TG T w v [] w2 v2 (l ++ (M.take (j + 1)).flatMap (· ++ [sgW [59]])) by
    have := (HS1.out.call S2).nob
    rw [HT.out]
    simpa [List.append_assoc, sgW] using this)
   clear S2
   go_wp2_with fail
   go_roundw
   case rel => exact ⟨j + 1, _, by go_num, hlt, HS2⟩
   case measure => simp [intOf]; omega
  ·obtain rfl : j = n := by omega
   have i2 : decide ((j : Int) < (j : Int)) = false := decide_eq_false (by omega)
   have HE := Lib.hid (show TG T w v [] wr v' (l ++ M.flatMap (· ++ [sgW [59]])) by
    have := HS.out
    rw [List.take_of_length_le (show M.length ≤ j by rw [HML.out]; exact Nat.le_refl _)] at this
    exact this)
   go_wp2_with fail
   go_end0
   exact ⟨⟨_, rfl⟩, _, HE.out⟩
theorem tbody_do (w : World) (T : Nat) (v0 v : Value) (l : List Wd) (W : World) (tb nb : Nat) (x y : Nd) (nv : Value) (ql : Option Addr) (cl j d : Nat) (h : TG T w v0 [(nb, ndO x nv (.slice ql (j + 1) cl)), (tb, .cells #[.pointer (some ⟨T, 0, none⟩)] 74)] W v l)
  (hk : KidsAt (· < T) w d (.slice ql (j + 1) cl) x.kids) (hy : x.kids[j]? = some y) (hY : BC (d - 1) y) (hj : j ≤ 140737488355328) (hb : l.length + (tellN y).length + 2 ≤ 1000000000) :
  Calls Tryz.prog 149 #[.string ⟨#[100, 111]⟩, .pointer (some ⟨tb, 0, none⟩), .pointer (some ⟨nb, 0, none⟩)] W fun e w' => (∃ u, e = .returned u) ∧ ∃ v', TG T w v0 [(nb, ndO x nv (.slice ql (j + 1) cl)), (tb, .cells #[.pointer (some ⟨T, 0, none⟩)] 74)] w' v' (l ++ ([kwW tDo] ++ tellN y ++ [kwW tEnd])) := by
 have HS0 := Lib.hid h
 have HB := Lib.hid hb
 have HY := Lib.hid hY
 have HK := Lib.hid hk
 have t0 : W.cell? ⟨tb, 0, none⟩ = some (.pointer (some ⟨T, 0, none⟩)) := (h.box (tb, _) (List.mem_cons_of_mem _ (List.mem_cons_self ..))).2.1 |> fun (e : Blk W tb 74 #[.pointer (some ⟨T, 0, none⟩)]) => e.cell 0
 have tl := cell_lt t0
 simp only at tl
 have hw1 : IntKind.i64.wrap ((j : Int) + 1 - 1) = (j : Int) := by rw [IntWalk.i64_in _ (by omega)]; omega
 have hw2 : IntKind.i64.wrap (j : Int) = (j : Int) := IntWalk.i64_in _ (by omega)
 have i0 : (0 : Int) ≤ (j : Int) := by omega
 have i1 : (j : Int) < (j : Int) + 1 := by omega
 have i1' : (j : Int) < ((j + 1 : Nat) : Int) := by omega
 obtain ⟨hjl, hyj⟩ := List.getElem?_eq_some_iff.1 hy
 have hlen : x.kids.length = j + 1 := by
  obtain ⟨q', c', e⟩ := hk.slice
  injection e with _ e2 _
  exact e2.symm
 have HKK := Lib.hid (show KidsAt (· < T) w d (.slice ql x.kids.length cl) x.kids by rw [hlen]; exact hk)
 have HJ := Lib.hid hjl
 have HYJ := Lib.hid (show ∀ hh : j < x.kids.length, x.kids[j]'hh = y from fun _ => hyj)
 clear h hb hY hk hy hlen hyj hjl
 go_enter Tryz.func149, Tryz.ntmps149
 go_wp2_with fail
 refine (tkey_any W T v _ ⟨#[100, 111]⟩ HS0.out.self (by have := HB.out; omega)).mono ?_
 rintro e w1 ⟨⟨_, rfl⟩, v1, S1⟩
 have HS1 := Lib.hid (HS0.out.call S1)
 clear S1 t0 tl
 have t0 : w1.cell? ⟨tb, 0, none⟩ = some (.pointer (some ⟨T, 0, none⟩)) := (HS1.out.box (tb, _) (List.mem_cons_of_mem _ (List.mem_cons_self ..))).2.1 |> fun (e : Blk w1 tb 74 #[.pointer (some ⟨T, 0, none⟩)]) => e.cell 0
 go_wp2_with fail
 obtain ⟨b0, b1, b2, b3, b4, b5, bl⟩ := HS1.out.nbox
 obtain ⟨kb, ko, qm, cm, qk, ck, hq, gw, k0, k1, k2, k3, k4, k5, hnd⟩ := HS1.out.kid HKK.out HJ.out
 have hbT : kb < T := by
  obtain ⟨b', o', e', hb', _⟩ := HKK.out.elem HJ.out
  rw [hq] at e'
  obtain ⟨rfl, rfl⟩ : kb = b' ∧ ko = o' := by cases e'; exact ⟨rfl, rfl⟩
  exact hb'
 rw [HYJ.out HJ.out] at k0 k1 k2 k3 k4 k5 hnd
 generalize y.names.length = mm at *
 generalize y.kids.length = mk at *
 have HND := Lib.hid hnd
 subst hq
 clear hnd b0 b1 b2 b3 b4
 have SS := And.intro t0 (And.intro b5 (And.intro k0 (And.intro k1 (And.intro k2 (And.intro k3 (And.intro k4 k5))))))
 clear t0 b5 k0 k1 k2 k3 k4 k5
 refine wp_region_held_drew (S := fun w' => w'.cell? ⟨tb, 0, none⟩ = some (.pointer (some ⟨T, 0, none⟩)) ∧ w'.cell? ⟨nb, 5, none⟩ = some (.slice (some ⟨kb, ko, none⟩) (j + 1) cl) ∧ w'.cell? ⟨kb, ko + j * 6, none⟩ = some (.int .i64 y.k) ∧ w'.cell? ⟨kb, ko + j * 6 + 1, none⟩ = some (.string y.name) ∧ w'.cell? ⟨kb, ko + j * 6 + 2, none⟩ = some (.string y.text) ∧ w'.cell? ⟨kb, ko + j * 6 + 3, none⟩ = some (.int .i64 y.n) ∧ w'.cell? ⟨kb, ko + j * 6 + 4, none⟩ = some (.slice qm mm cm) ∧ w'.cell? ⟨kb, ko + j * 6 + 5, none⟩ = some (.slice qk mk ck)) (by kernel_rfl) (SS) (fun hHeld => ?_)
 refine tkH (i := 0) (v := ?_) ?_
 try simp only [Act.put, pzz]
 refine tkH (i := 1) (v := ?_) ?_
 try simp only [Act.put, pzz]
 refine tkH (i := 2) (v := ?_) ?_
 try simp only [Act.put, pzz]
 refine tkH (i := 3) (v := ?_) ?_
 try simp only [Act.put, pzz]
 refine tkH (i := 4) (v := ?_) ?_
 try simp only [Act.put, pzz]
 refine tkH (i := 5) (v := ?_) ?_
 try simp only [Act.put, pzz]
 refine tkH (i := 6) (v := ?_) ?_
 try simp only [Act.put, pzz]
 refine tkH (i := 7) (v := ?_) ?_
 try simp only [Act.put, pzz]
 refine tkH (i := 8) (v := ?_) ?_
 try simp only [Act.put, pzz]
 refine wpAnyH_ready (rs := [9]) (by kernel_rfl) (by simp) ?_
 refine AllReadyH.cons rfl (fun K hK => ?_) AllReadyH.nil
 obtain ⟨t0, b5, k0, k1, k2, k3, k4, k5⟩ := id hHeld
 go_simp
 have HSd := Lib.hid (HS1.out.ext ((Ext.refl w1).drew))
 have k0d := ((Ext.refl w1).drew).cell SS.2.2.1
 have k1d := ((Ext.refl w1).drew).cell SS.2.2.2.1
 have k2d := ((Ext.refl w1).drew).cell SS.2.2.2.2.1
 have k3d := ((Ext.refl w1).drew).cell SS.2.2.2.2.2.1
 have k4d := ((Ext.refl w1).drew).cell SS.2.2.2.2.2.2.1
 have k5d := ((Ext.refl w1).drew).cell SS.2.2.2.2.2.2.2
 refine (HY.out w1.drew T v1 _ _ (HSd.out.node HND.out) HSd.out.self (by have := HB.out; simp; omega)).mono ?_
 rintro e w3 ⟨⟨_, rfl⟩, v3, S3⟩
 have HS3 := Lib.hid (HSd.out.call S3)
 have t0z : w3.cell? ⟨tb, 0, none⟩ = some (.pointer (some ⟨T, 0, none⟩)) := (HS3.out.box (tb, _) (List.mem_cons_of_mem _ (List.mem_cons_self ..))).2.1 |> fun (e : Blk w3 tb 74 #[.pointer (some ⟨T, 0, none⟩)]) => e.cell 0
 have b5z := HS3.out.nbox.2.2.2.2.2.1
 have k0z := S3.low' hbT k0d
 have k1z := S3.low' hbT k1d
 have k2z := S3.low' hbT k2d
 have k3z := S3.low' hbT k3d
 have k4z := S3.low' hbT k4d
 have k5z := S3.low' hbT k5d
 clear S3 t0 b5 k0 k1 k2 k3 k4 k5 k0d k1d k2d k3d k4d k5d
 clear hHeld
 refine hK.out _ _ (⟨t0z, b5z, k0z, k1z, k2z, k3z, k4z, k5z⟩) (fun hHeld => ?_)
 clear hK K
 try simp only [Act.put, pzz]
 refine wpAnyH_done (by kernel_rfl) ?_ _
 clear b5z k0z k1z k2z k3z k4z k5z SS
 go_wp2_with fail
 refine (tkey_any w3 T v3 _ ⟨#[101, 110, 100]⟩ HS3.out.self (by have := HB.out; simp; omega)).mono ?_
 rintro e w4 ⟨⟨_, rfl⟩, v4, S4⟩
 have HS4 := Lib.hid (HS3.out.call S4)
 clear S4
 go_wp2_with fail
 go_end0
 exact ⟨⟨_, rfl⟩, v4, by simpa [List.append_assoc, kwW] using HS4.out⟩
theorem tbody_no (w : World) (T : Nat) (v0 v : Value) (l : List Wd) (W : World) (tb nb : Nat) (x y : Nd) (nv : Value) (ql : Option Addr) (cl j d : Nat) (h : TG T w v0 [(nb, ndO x nv (.slice ql (j + 1) cl)), (tb, .cells #[.pointer (some ⟨T, 0, none⟩)] 74)] W v l)
  (hk : KidsAt (· < T) w d (.slice ql (j + 1) cl) x.kids) (hy : x.kids[j]? = some y) (hY : BC (d - 1) y) (hj : j ≤ 140737488355328) (hb : l.length + (tellN y).length + 1 ≤ 1000000000) :
  Calls Tryz.prog 149 #[.string ⟨#[]⟩, .pointer (some ⟨tb, 0, none⟩), .pointer (some ⟨nb, 0, none⟩)] W fun e w' => (∃ u, e = .returned u) ∧ ∃ v', TG T w v0 [(nb, ndO x nv (.slice ql (j + 1) cl)), (tb, .cells #[.pointer (some ⟨T, 0, none⟩)] 74)] w' v' (l ++ ([] ++ tellN y ++ [kwW tEnd])) := by
 have HS0 := Lib.hid h
 have HB := Lib.hid hb
 have HY := Lib.hid hY
 have HK := Lib.hid hk
 have t0 : W.cell? ⟨tb, 0, none⟩ = some (.pointer (some ⟨T, 0, none⟩)) := (h.box (tb, _) (List.mem_cons_of_mem _ (List.mem_cons_self ..))).2.1 |> fun (e : Blk W tb 74 #[.pointer (some ⟨T, 0, none⟩)]) => e.cell 0
 have tl := cell_lt t0
 simp only at tl
 have hw1 : IntKind.i64.wrap ((j : Int) + 1 - 1) = (j : Int) := by rw [IntWalk.i64_in _ (by omega)]; omega
 have hw2 : IntKind.i64.wrap (j : Int) = (j : Int) := IntWalk.i64_in _ (by omega)
 have i0 : (0 : Int) ≤ (j : Int) := by omega
 have i1 : (j : Int) < (j : Int) + 1 := by omega
 have i1' : (j : Int) < ((j + 1 : Nat) : Int) := by omega
 obtain ⟨hjl, hyj⟩ := List.getElem?_eq_some_iff.1 hy
 have hlen : x.kids.length = j + 1 := by
  obtain ⟨q', c', e⟩ := hk.slice
  injection e with _ e2 _
  exact e2.symm
 have HKK := Lib.hid (show KidsAt (· < T) w d (.slice ql x.kids.length cl) x.kids by rw [hlen]; exact hk)
 have HJ := Lib.hid hjl
 have HYJ := Lib.hid (show ∀ hh : j < x.kids.length, x.kids[j]'hh = y from fun _ => hyj)
 clear h hb hY hk hy hlen hyj hjl
 go_enter Tryz.func149, Tryz.ntmps149
 go_wp2_with fail
 obtain ⟨b0, b1, b2, b3, b4, b5, bl⟩ := HS0.out.nbox
 obtain ⟨kb, ko, qm, cm, qk, ck, hq, gw, k0, k1, k2, k3, k4, k5, hnd⟩ := HS0.out.kid HKK.out HJ.out
 have hbT : kb < T := by
  obtain ⟨b', o', e', hb', _⟩ := HKK.out.elem HJ.out
  rw [hq] at e'
  obtain ⟨rfl, rfl⟩ : kb = b' ∧ ko = o' := by cases e'; exact ⟨rfl, rfl⟩
  exact hb'
 rw [HYJ.out HJ.out] at k0 k1 k2 k3 k4 k5 hnd
 generalize y.names.length = mm at *
 generalize y.kids.length = mk at *
 have HND := Lib.hid hnd
 subst hq
 clear hnd b0 b1 b2 b3 b4
 have SS := And.intro t0 (And.intro b5 (And.intro k0 (And.intro k1 (And.intro k2 (And.intro k3 (And.intro k4 k5))))))
 clear t0 b5 k0 k1 k2 k3 k4 k5
 refine wp_region_held_drew (S := fun w' => w'.cell? ⟨tb, 0, none⟩ = some (.pointer (some ⟨T, 0, none⟩)) ∧ w'.cell? ⟨nb, 5, none⟩ = some (.slice (some ⟨kb, ko, none⟩) (j + 1) cl) ∧ w'.cell? ⟨kb, ko + j * 6, none⟩ = some (.int .i64 y.k) ∧ w'.cell? ⟨kb, ko + j * 6 + 1, none⟩ = some (.string y.name) ∧ w'.cell? ⟨kb, ko + j * 6 + 2, none⟩ = some (.string y.text) ∧ w'.cell? ⟨kb, ko + j * 6 + 3, none⟩ = some (.int .i64 y.n) ∧ w'.cell? ⟨kb, ko + j * 6 + 4, none⟩ = some (.slice qm mm cm) ∧ w'.cell? ⟨kb, ko + j * 6 + 5, none⟩ = some (.slice qk mk ck)) (by kernel_rfl) (SS) (fun hHeld => ?_)
 refine tkH (i := 0) (v := ?_) ?_
 try simp only [Act.put, pzz]
 refine tkH (i := 1) (v := ?_) ?_
 try simp only [Act.put, pzz]
 refine tkH (i := 2) (v := ?_) ?_
 try simp only [Act.put, pzz]
 refine tkH (i := 3) (v := ?_) ?_
 try simp only [Act.put, pzz]
 refine tkH (i := 4) (v := ?_) ?_
 try simp only [Act.put, pzz]
 refine tkH (i := 5) (v := ?_) ?_
 try simp only [Act.put, pzz]
 refine tkH (i := 6) (v := ?_) ?_
 try simp only [Act.put, pzz]
 refine tkH (i := 7) (v := ?_) ?_
 try simp only [Act.put, pzz]
 refine tkH (i := 8) (v := ?_) ?_
 try simp only [Act.put, pzz]
 refine wpAnyH_ready (rs := [9]) (by kernel_rfl) (by simp) ?_
 refine AllReadyH.cons rfl (fun K hK => ?_) AllReadyH.nil
 obtain ⟨t0, b5, k0, k1, k2, k3, k4, k5⟩ := id hHeld
 go_simp
 have HSd := Lib.hid (HS0.out.ext ((Ext.refl W).drew))
 have k0d := ((Ext.refl W).drew).cell SS.2.2.1
 have k1d := ((Ext.refl W).drew).cell SS.2.2.2.1
 have k2d := ((Ext.refl W).drew).cell SS.2.2.2.2.1
 have k3d := ((Ext.refl W).drew).cell SS.2.2.2.2.2.1
 have k4d := ((Ext.refl W).drew).cell SS.2.2.2.2.2.2.1
 have k5d := ((Ext.refl W).drew).cell SS.2.2.2.2.2.2.2
 refine (HY.out W.drew T v _ _ (HSd.out.node HND.out) HSd.out.self (by have := HB.out; simp; omega)).mono ?_
 rintro e w3 ⟨⟨_, rfl⟩, v3, S3⟩
 have HS3 := Lib.hid (HSd.out.call S3)
 have t0z : w3.cell? ⟨tb, 0, none⟩ = some (.pointer (some ⟨T, 0, none⟩)) := (HS3.out.box (tb, _) (List.mem_cons_of_mem _ (List.mem_cons_self ..))).2.1 |> fun (e : Blk w3 tb 74 #[.pointer (some ⟨T, 0, none⟩)]) => e.cell 0
 have b5z := HS3.out.nbox.2.2.2.2.2.1
 have k0z := S3.low' hbT k0d
 have k1z := S3.low' hbT k1d
 have k2z := S3.low' hbT k2d
 have k3z := S3.low' hbT k3d
 have k4z := S3.low' hbT k4d
 have k5z := S3.low' hbT k5d
 clear S3 t0 b5 k0 k1 k2 k3 k4 k5 k0d k1d k2d k3d k4d k5d
 clear hHeld
 refine hK.out _ _ (⟨t0z, b5z, k0z, k1z, k2z, k3z, k4z, k5z⟩) (fun hHeld => ?_)
 clear hK K
 try simp only [Act.put, pzz]
 refine wpAnyH_done (by kernel_rfl) ?_ _
 clear b5z k0z k1z k2z k3z k4z k5z SS
 go_wp2_with fail
 refine (tkey_any w3 T v3 _ ⟨#[101, 110, 100]⟩ HS3.out.self (by have := HB.out; simp; omega)).mono ?_
 rintro e w4 ⟨⟨_, rfl⟩, v4, S4⟩
 have HS4 := Lib.hid (HS3.out.call S4)
 clear S4
 go_wp2_with fail
 go_end0
 exact ⟨⟨_, rfl⟩, v4, by simpa [List.append_assoc, kwW] using HS4.out⟩
theorem tbranch_any (w : World) (T : Nat) (v : Value) (l : List Wd) (u : Value) (d : Nat) (ks : List Nd) (hbr : BrOk ks) (h2 : 2 ≤ ks.length) (hX : ∀ y ∈ ks, exprK y.k = true → XC (d - 1) y) (hB : ∀ y ∈ ks, y.k = 0 → BC (d - 1) y) (hk : KidsAt (· < T) w d u ks) (h : TG T w v [] w v l) (hks : ks.length ≤ 140737488355328) (hl : l.length + (ifT (ks.map tellN)).length ≤ 1000000000) :
  Calls Tryz.prog 154 #[.pointer (some ⟨T, 0, none⟩), u] w (TellE T w v l (ifT (ks.map tellN))) := by
 obtain ⟨q, c, rfl⟩ := hk.slice
 have H := Lib.hid h
 obtain ⟨n, hn⟩ : ∃ n, ks.length = n := ⟨_, rfl⟩
 have HN := Lib.hid hn
 have HKS := Lib.hid hk
 rw [hn] at hks h2 ⊢
 obtain ⟨M, hM⟩ : ∃ M, ks.map tellN = M := ⟨_, rfl⟩
 have hMl : M.length = n := by rw [← hM, List.length_map, hn]
 rw [hM] at hl ⊢
 have hpre : ∀ m, 2 * m + 2 ≤ n → ifT M = accT (M.take (2 * m + 2)) ++ restT (M.drop (2 * m + 2)) := fun m hm => by
  conv => lhs; rw [← List.take_append_drop (2 * m + 2) M]
  exact ifT_eq (m := m) _ (by rw [List.length_take]; omega)
 have HM := Lib.hid hM
 have HML := Lib.hid hMl
 have HPRE := Lib.hid hpre
 have HX := Lib.hid hX
 have HBB := Lib.hid hB
 have HL := Lib.hid hl
 have HBR := Lib.hid hbr
 clear h hk hn hM hMl hpre hX hl hB hbr
 go_enter Tryz.func154, Tryz.ntmps154
 go_wp2_with fail
 refine (tkey_any w T v l ⟨#[105, 102]⟩ H.out (by have := HL.out; have e := HPRE.out 0 (by omega); rw [e] at this; simp only [List.length_append] at this; have e3 : 1 ≤ (accT (M.take 2)).length := (by match M, HML.out, h2 with | c :: b :: r, _, _ => (simp [accT])); omega)).mono ?_
 rintro e wa ⟨⟨_, rfl⟩, va, Sa⟩
 have HSA := Lib.hid (H.out.call Sa)
 clear Sa
 go_wp2_with fail
 go_loopw [4] (fun i wr => ∃ (m : Nat) (v' : Value), i = .int .i64 ((2 * m : Nat) : Int) ∧ 2 * m ≤ n ∧ Hid (TG T w v [] wr v' (l ++ accT (M.take (2 * m))))) (fun i _ => n - (intOf i).toNat)
 case atStart => exact ⟨0, va, rfl, Nat.zero_le _, Lib.hid (by simpa [accT, kwW] using HSA.out)⟩
 case round =>
  obtain ⟨m, v', rfl, hm, HS⟩ := hrel
  have hw0 : IntKind.i64.wrap (((2 * m : Nat) : Int) + 1) = ((2 * m + 1 : Nat) : Int) := by rw [IntWalk.i64_in _ (by omega)]; omega
  have hw0' : IntKind.i64.wrap (2 * (m : Int) + 1) = ((2 * m + 1 : Nat) : Int) := by rw [IntWalk.i64_in _ (by omega)]; omega
  have hw2 : IntKind.i64.wrap (2 * (m : Int) + 2) = ((2 * m + 2 : Nat) : Int) := by rw [IntWalk.i64_in _ (by omega)]; omega
  have hw3 : IntKind.i64.wrap (2 * (m : Int)) = 2 * (m : Int) := by rw [IntWalk.i64_in _ (by omega)]
  have hw4 : IntKind.i64.wrap (2 * (m : Int) + 1) = 2 * (m : Int) + 1 := by rw [IntWalk.i64_in _ (by omega)]
  by_cases hlt : 2 * m + 1 < n
  ·have j0 : 2 * m < ks.length := by rw [HN.out]; omega
   have j1 : 2 * m + 1 < ks.length := by rw [HN.out]; exact hlt
   have M0 : 2 * m < M.length := by rw [HML.out]; omega
   have M1 : 2 * m + 1 < M.length := by rw [HML.out]; exact hlt
   have hpr := br_pair m ks HBR.out j1
   have e0 : M[2 * m] = tellN ks[2 * m] := by simp [← HM.out]
   have e1 : M[2 * m + 1] = tellN ks[2 * m + 1] := by simp [← HM.out]
   obtain ⟨y, hy⟩ : ∃ y, ks[2 * m] = y := ⟨_, rfl⟩
   obtain ⟨z, hz⟩ : ∃ z, ks[2 * m + 1] = z := ⟨_, rfl⟩
   rw [hy] at e0
   rw [hz] at e1
   have hT : accT (M.take (2 * m + 2)) = accT (M.take (2 * m)) ++ (if m = 0 then [] else [kwW tElseif]) ++ (tellN y ++ kwW tThen :: tellN z) := by
    have : M.take (2 * m + 2) = M.take (2 * m) ++ [M[2 * m], M[2 * m + 1]] := by
     rw [List.take_succ_eq_append_getElem M1, List.take_succ_eq_append_getElem M0, List.append_assoc]; rfl
    rw [this, accT_snoc (m := m) _ _ (by rw [List.length_take]; omega), e0, e1]
   have hXY : XC (d - 1) y := by
    have := HX.out ks[2 * m] (List.getElem_mem j0) hpr.1
    rw [hy] at this; exact this
   have hXZ : BC (d - 1) z := by
    have := HBB.out ks[2 * m + 1] (List.getElem_mem j1) hpr.2
    rw [hz] at this; exact this
   have HJ0 := Lib.hid j0
   have HJ1 := Lib.hid j1
   have HY0 := Lib.hid (show ∀ hh : 2 * m < ks.length, ks[2 * m]'hh = y from fun _ => hy)
   have HY1 := Lib.hid (show ∀ hh : 2 * m + 1 < ks.length, ks[2 * m + 1]'hh = z from fun _ => hz)
   have HXY := Lib.hid hXY
   have HXZ := Lib.hid hXZ
   have HBA := Lib.hid (show l.length + (accT (M.take (2 * m + 2))).length ≤ 1000000000 by have := HL.out; rw [HPRE.out m (by omega)] at this; simp only [List.length_append] at this; omega)
   have i0 : (0 : Int) ≤ ((2 * m : Nat) : Int) := by omega
   have i0' : (0 : Int) ≤ 2 * (m : Int) := by omega
   have i1 : 2 * (m : Int) < (n : Int) := by omega
   have i2 : decide (2 * (m : Int) + 1 < (n : Int)) = true := decide_eq_true (by omega)
   have i3 : decide (((2 * m + 1 : Nat) : Int) < (n : Int)) = true := decide_eq_true (by omega)
   have i4 : 2 * (m : Int) + 1 < (n : Int) := by omega
   have i5 : (0 : Int) ≤ 2 * (m : Int) + 1 := by omega
   have t0 : (2 * (m : Int)).toNat = 2 * m := by omega
   have t1 : (2 * (m : Int) + 1).toNat = 2 * m + 1 := by omega
   clear hXY hXZ hpr e0 e1 M0 M1
   by_cases hm0 : m = 0
   ·have z1 : decide ((0 : Int) < 2 * (m : Int)) = false := decide_eq_false (by omega)
    have z2 : decide ((0 : Int) < (m : Int)) = false := decide_eq_false (by omega)
    have z3 : decide (0 < m) = false := decide_eq_false (by omega)
    have HTA := Lib.hid (show accT (M.take (2 * m + 2)) = accT (M.take (2 * m)) ++ (tellN y ++ kwW tThen :: tellN z) by rw [hT, if_pos hm0, List.append_nil])
    clear hT hm0 hy hz j0 j1
    obtain ⟨b, o, qm, cm, qk, ck, hq, gw, k0, k1, k2, k3, k4, k5, hnd⟩ := HS.out.kid HKS.out HJ0.out
    cases hq
    rw [HY0.out HJ0.out] at k0 k1 k2 k3 k4 k5 hnd
    generalize y.names.length = mm at *
    generalize y.kids.length = mk at *
    have HND := Lib.hid hnd
    clear hnd
    go_wp2_with fail
    refine (HXY.out wr T v' _ _ (HS.out.node HND.out) HS.out.self (by have := HBA.out; rw [HTA.out] at this; simp at this ⊢; omega)).mono ?_
    rintro e w1 ⟨⟨_, rfl⟩, v1, S1⟩
    have HS1 := Lib.hid (HS.out.call S1)
    clear S1
    clear k0 k1 k2 k3 k4 k5 HND gw
    go_wp2_with fail
    refine (tkey_any w1 T v1 _ ⟨#[116, 104, 101, 110]⟩ HS1.out.self (by have := HBA.out; rw [HTA.out] at this; simp at this ⊢; omega)).mono ?_
    rintro e w2 ⟨⟨_, rfl⟩, v2, S2⟩
    have HS2 := Lib.hid (HS1.out.call S2)
    clear S2
    obtain ⟨b2, o2, qm2, cm2, qk2, ck2, hq2, gw2, k0, k1, k2, k3, k4, k5, hnd⟩ := HS2.out.kid HKS.out HJ1.out
    cases hq2
    rw [HY1.out HJ1.out] at k0 k1 k2 k3 k4 k5 hnd
    generalize z.names.length = mm2 at *
    generalize z.kids.length = mk2 at *
    have HND := Lib.hid hnd
    clear hnd
    go_wp2_with fail
    refine (HXZ.out w2 T v2 _ _ (HS2.out.node HND.out) HS2.out.self (by have := HBA.out; rw [HTA.out] at this; simp at this ⊢; omega)).mono ?_
    rintro e w3 ⟨⟨_, rfl⟩, v3, S3⟩
    have HS3 := Lib.hid (HS2.out.call S3)
    clear S3
    clear k0 k1 k2 k3 k4 k5 HND gw2
    have HSF := Lib.hid (show TG T w v [] w3 v3 (l ++ accT (M.take (2 * m + 2))) by
     have := HS3.out
     rw [HTA.out]
     simpa [List.append_assoc, kwW] using this)
    go_wp2_with fail
    go_roundw
    case rel => exact ⟨m + 1, _, by go_num, by omega, HSF⟩
    case measure => simp [intOf]; omega
   ·have z1 : decide ((0 : Int) < 2 * (m : Int)) = true := decide_eq_true (by omega)
    have z2 : decide ((0 : Int) < (m : Int)) = true := decide_eq_true (by omega)
    have z3 : decide (0 < m) = true := decide_eq_true (by omega)
    have HTA := Lib.hid (show accT (M.take (2 * m + 2)) = accT (M.take (2 * m)) ++ kwW tElseif :: (tellN y ++ kwW tThen :: tellN z) by rw [hT, if_neg hm0]; simp)
    clear hT hm0 hy hz j0 j1
    go_wp2_with fail
    refine (tkey_any wr T v' _ ⟨#[101, 108, 115, 101, 105, 102]⟩ HS.out.self (by have := HBA.out; rw [HTA.out] at this; simp at this ⊢; omega)).mono ?_
    rintro e w1 ⟨⟨_, rfl⟩, v1, S1⟩
    have HS1 := Lib.hid (HS.out.call S1)
    clear S1
    obtain ⟨b, o, qm, cm, qk, ck, hq, gw, k0, k1, k2, k3, k4, k5, hnd⟩ := HS1.out.kid HKS.out HJ0.out
    cases hq
    rw [HY0.out HJ0.out] at k0 k1 k2 k3 k4 k5 hnd
    generalize y.names.length = mm at *
    generalize y.kids.length = mk at *
    have HND := Lib.hid hnd
    clear hnd
    go_wp2_with fail
    refine (HXY.out w1 T v1 _ _ (HS1.out.node HND.out) HS1.out.self (by have := HBA.out; rw [HTA.out] at this; simp at this ⊢; omega)).mono ?_
    rintro e w2 ⟨⟨_, rfl⟩, v2, S2⟩
    have HS2 := Lib.hid (HS1.out.call S2)
    clear S2
    clear k0 k1 k2 k3 k4 k5 HND gw
    go_wp2_with fail
    refine (tkey_any w2 T v2 _ ⟨#[116, 104, 101, 110]⟩ HS2.out.self (by have := HBA.out; rw [HTA.out] at this; simp at this ⊢; omega)).mono ?_
    rintro e w3 ⟨⟨_, rfl⟩, v3, S3⟩
    have HS3 := Lib.hid (HS2.out.call S3)
    clear S3
    obtain ⟨b2, o2, qm2, cm2, qk2, ck2, hq2, gw2, k0, k1, k2, k3, k4, k5, hnd⟩ := HS3.out.kid HKS.out HJ1.out
    cases hq2
    rw [HY1.out HJ1.out] at k0 k1 k2 k3 k4 k5 hnd
    generalize z.names.length = mm2 at *
    generalize z.kids.length = mk2 at *
    have HND := Lib.hid hnd
    clear hnd
    go_wp2_with fail
    refine (HXZ.out w3 T v3 _ _ (HS3.out.node HND.out) HS3.out.self (by have := HBA.out; rw [HTA.out] at this; simp at this ⊢; omega)).mono ?_
    rintro e w4 ⟨⟨_, rfl⟩, v4, S4⟩
    have HS4 := Lib.hid (HS3.out.call S4)
    clear S4
    clear k0 k1 k2 k3 k4 k5 HND gw2
    have HSF := Lib.hid (show TG T w v [] w4 v4 (l ++ accT (M.take (2 * m + 2))) by
     have := HS4.out
     rw [HTA.out]
     simpa [List.append_assoc, kwW] using this)
    go_wp2_with fail
    go_roundw
    case rel => exact ⟨m + 1, _, by go_num, by omega, HSF⟩
    case measure => simp [intOf]; omega
  ·have i2 : decide (2 * (m : Int) + 1 < (n : Int)) = false := decide_eq_false (by omega)
   have i3 : decide (((2 * m + 1 : Nat) : Int) < (n : Int)) = false := decide_eq_false (by omega)
   have hm1 : 1 ≤ m := by omega
   obtain ⟨m, rfl⟩ : ∃ m', m = m' + 1 := ⟨m - 1, by omega⟩
   by_cases he : n = 2 * (m + 1)
   ·have hT : ifT M = accT (M.take (2 * (m + 1))) ++ [kwW tEnd] := by
     have := HPRE.out m (by omega)
     rw [this, show 2 * m + 2 = 2 * (m + 1) by omega, List.drop_of_length_le (by rw [HML.out]; omega)]; rfl
    have HT := Lib.hid hT
    have r1 : (n : Int).tmod 2 = 0 := by rw [show (2 : Int) = ((2 : Nat) : Int) from rfl, ← Int.ofNat_tmod]; omega
    have r2 : (n : Int) % 2 = 0 := by omega
    clear hT
    have HE := Lib.hid he
    clear he
    go_wp2_with fail
    refine (tkey_any wr T v' _ ⟨#[101, 110, 100]⟩ HS.out.self (by have := HL.out; rw [HT.out] at this; simp at this ⊢; omega)).mono ?_
    rintro e w1 ⟨⟨_, rfl⟩, v1, S1⟩
    have HS1 := Lib.hid (HS.out.call S1)
    clear S1
    go_wp2_with fail
    go_end0
    exact ⟨⟨_, rfl⟩, v1, by rw [HT.out]; simpa [List.append_assoc, kwW] using HS1.out⟩
   ·have hn2 : n = 2 * (m + 1) + 1 := by omega
    have jl : 2 * (m + 1) < ks.length := by rw [HN.out]; omega
    have jM : 2 * (m + 1) < M.length := by rw [HML.out]; omega
    have hlast := br_last (m + 1) ks HBR.out (by rw [HN.out]; exact hn2)
    have HJ0 := Lib.hid jl
    obtain ⟨z, hz⟩ : ∃ z, ks[2 * (m + 1)] = z := ⟨_, rfl⟩
    have hXZ : BC (d - 1) z := by
     have := HBB.out ks[2 * (m + 1)] (List.getElem_mem jl) hlast
     rw [hz] at this; exact this
    have e0 : M[2 * (m + 1)] = tellN z := by rw [← hz]; simp [← HM.out]; first | done | rfl
    have hT : ifT M = accT (M.take (2 * (m + 1))) ++ kwW tElse :: (tellN z ++ [kwW tEnd]) := by
     have := HPRE.out m (by omega)
     rw [this, show 2 * m + 2 = 2 * (m + 1) by omega]
     have hd : M.drop (2 * (m + 1)) = [M[2 * (m + 1)]] := by
      rw [List.drop_eq_getElem_cons jM, List.drop_of_length_le (by rw [HML.out]; omega)]
     rw [hd, e0]; rfl
    have HY0 := Lib.hid (show ∀ hh : 2 * (m + 1) < ks.length, ks[2 * (m + 1)]'hh = z from fun _ => hz)
    have HXZ := Lib.hid hXZ
    have HT := Lib.hid hT
    have r1 : (n : Int).tmod 2 = 1 := by rw [show (2 : Int) = ((2 : Nat) : Int) from rfl, ← Int.ofNat_tmod]; omega
    have r2 : (n : Int) % 2 = 1 := by omega
    have hw5 : IntKind.i64.wrap ((n : Int) - 1) = ((2 * (m + 1) : Nat) : Int) := by rw [IntWalk.i64_in _ (by omega)]; omega
    have i6 : (0 : Int) ≤ ((2 * (m + 1) : Nat) : Int) := by omega
    have i7 : ((2 * (m + 1) : Nat) : Int) < (n : Int) := by omega
    have i6' : (0 : Int) ≤ 2 * ((m : Int) + 1) := by omega
    have i7' : 2 * ((m : Int) + 1) < (n : Int) := by omega
    have t1 : (2 * ((m : Int) + 1)).toNat = 2 * (m + 1) := by omega
    have HN2 := Lib.hid hn2
    clear hT hXZ hz hlast e0 jM jl he hn2
    go_wp2_with fail
    refine (tkey_any wr T v' _ ⟨#[101, 108, 115, 101]⟩ HS.out.self (by have := HL.out; rw [HT.out] at this; simp at this ⊢; omega)).mono ?_
    rintro e w1 ⟨⟨_, rfl⟩, v1, S1⟩
    have HS1 := Lib.hid (HS.out.call S1)
    clear S1
    obtain ⟨b, o, qm, cm, qk, ck, hq, gw, k0, k1, k2, k3, k4, k5, hnd⟩ := HS1.out.kid HKS.out HJ0.out
    cases hq
    rw [HY0.out HJ0.out] at k0 k1 k2 k3 k4 k5 hnd
    generalize z.names.length = mm at *
    generalize z.kids.length = mk at *
    have HND := Lib.hid hnd
    clear hnd
    go_wp2_with fail
    refine (HXZ.out w1 T v1 _ _ (HS1.out.node HND.out) HS1.out.self (by have := HL.out; rw [HT.out] at this; simp at this ⊢; omega)).mono ?_
    rintro e w2 ⟨⟨_, rfl⟩, v2, S2⟩
    have HS2 := Lib.hid (HS1.out.call S2)
    clear S2 k0 k1 k2 k3 k4 k5 gw
    go_wp2_with fail
    refine (tkey_any w2 T v2 _ ⟨#[101, 110, 100]⟩ HS2.out.self (by have := HL.out; rw [HT.out] at this; simp at this ⊢; omega)).mono ?_
    rintro e w3 ⟨⟨_, rfl⟩, v3, S3⟩
    have HS3 := Lib.hid (HS2.out.call S3)
    clear S3
    go_wp2_with fail
    go_end0
    exact ⟨⟨_, rfl⟩, v3, by rw [HT.out]; simpa [List.append_assoc, kwW] using HS3.out⟩
end Go.Proofs.YtkbcnacjaakleaaGreatDoor
