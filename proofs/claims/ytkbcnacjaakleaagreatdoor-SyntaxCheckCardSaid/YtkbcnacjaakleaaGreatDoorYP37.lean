/- The document's may and Check. The law SyntaxCheck, walked. What the rows of this seat list, and what they ask behind a law that makes only new blocks. Trees among the arguments of a law: opened. -/
import Derived.Test.YtkbcnacjaakleaaGreatDoorYScJ
import Derived.Test.YtkbcnacjaakleaaGreatDoorYP34
import Derived.Test.YtkbcnacjaakleaaGreatDoorYSpJ
import Derived.Test.YtkbcnacjaakleaaGreatDoorYP04
import Derived.BigQuiet
import Derived.Test.YtkbcnacjaakleaaGreatDoorCards
import Derived.Test.YtkbcnacjaakleaaGreatDoorTie
import Derived.Test.YtkbcnacjaakleaaGreatDoorYP10
import Derived.WalkKit
import Derived.ProofKit
import Derived.OpenShut
import Derived.Deep.DeepHandedRow
import Derived.Deep.DeepWitnessRowRef
import Derived.Deep.Slices
import Derived.Lib.LaidTab
import Derived.Lib.SmallJoins
import Derived.Stop.LaidErr
import Derived.Lay
import Derived.LaidSub
import Derived.ShutString
import Derived.Deep.Strs
import Derived.ChangeSame
import Derived.Carry
import Derived.SizedLaws
import Derived.Test.YtkbcnacjaakleaaGreatDoorYP01
set_option maxRecDepth 100000
set_option maxHeartbeats 32000000
set_option linter.unusedVariables false
set_option linter.unusedSimpArgs false
namespace Go.Proofs.YtkbcnacjaakleaaGreatDoor
open Go.RowKit

theorem rmay_step (w : World) (ok : Nat → Prop) (d : Nat) (x : Nd) (qn : Option Addr) (cn : Nat) (ql : Option Addr) (cl : Nat) (hz : SzN x) (hn : TxtsAt ok w (.slice qn x.names.length cn) x.names) (hkd : KidsAt ok w d (.slice ql x.kids.length cl) x.kids)
  (hsub : SubN w ok d x.kids fun y v W => Calls Tryz.prog 44 #[v] W fun e w' => e = .returned (.bool (rmayN y)) ∧ Ext W w') :
  Calls Tryz.prog 44 #[ndV x (.slice qn x.names.length cn) (.slice ql x.kids.length cl)] w fun e w' => e = .returned (.bool (rmayN x)) ∧ Ext w w' := by
 rw [rmayN_eq]
 have hso := hz.out
 have hs : ∀ y ∈ x.kids, In64 y.k := fun y hy => (hso.sub y hy).out.k
 have h1 := hso.names
 have h2 := hso.kids
 have h64 := hso.k
 clear hso hz
 obtain ⟨k, a, t, n, names, kids⟩ := x
 simp only [Nd.k, Nd.name, Nd.text, Nd.n, Nd.names, Nd.kids] at *
 by_cases hk : 0 ≤ k ∧ k ≤ 24
 ·by_cases g9 : k = 9
  ·subst g9; exact rmay_9 w ok d n a t names kids qn cn ql cl hn hkd h1 h2 hs hsub
  by_cases g15 : k = 15
  ·subst g15; exact rmay_15 w ok d n a t names kids qn cn ql cl hn hkd h1 h2 hs hsub
  by_cases g17 : k = 17
  ·subst g17; exact rmay_17 w ok d n a t names kids qn cn ql cl hn hkd h1 h2 hs hsub
  by_cases g21 : k = 21
  ·subst g21; exact rmay_21 w ok d n a t names kids qn cn ql cl hn hkd h1 h2 hs hsub
  by_cases g14 : k = 14
  ·subst g14; exact rmay_14 w ok d n a t names kids qn cn ql cl hn hkd h1 h2 hs hsub
  by_cases g13 : k = 13
  ·subst g13; exact rmay_13 w ok d n a t names kids qn cn ql cl hn hkd h1 h2 hs hsub
  by_cases g1 : k = 1
  ·subst g1; exact rmay_1 w ok d n a t names kids qn cn ql cl hn hkd h1 h2 hs hsub
  by_cases g6 : k = 6
  ·subst g6; exact rmay_6 w ok d n a t names kids qn cn ql cl hn hkd h1 h2 hs hsub
  exact rmay_o w ok d k n a t names kids qn cn ql cl hk ⟨g9, g15, g17, g21, g14, g13, g1, g6⟩ hn hkd h1 h2 hs hsub
 ·have hr : (rnodeP k a t n names kids && rmayL kids) = false := by
   have : rnodeP k a t n names kids = false := by
    unfold rnodeP
    by_cases h0 : 0 ≤ k
    ·have h1 : decide (k ≤ 24) = false := decide_eq_false (by omega)
     simp [h1]
    ·have h1 : decide (0 ≤ k) = false := decide_eq_false h0
     simp [h1]
   rw [this]; rfl
  rw [hr]
  have hwk : IntKind.i64.wrap k = k := IntWalk.i64_in _ h64
  clear hsub hkd hn hs hr
  generalize names.length = nl at *
  generalize kids.length = kl at *
  by_cases h0 : k < 0
  ·have g0 : decide (k < 0) = true := decide_eq_true h0
   clear hk h0
   show Calls Tryz.prog 44 #[.agg #[.int .i64 k, .string a, .string t, .int .i64 n, .slice qn nl cn, .slice ql kl cl]] w _
   go_enter Tryz.func44, Tryz.ntmps44
   go_wp2_with fail
   go_ret
   exact ⟨rfl, (Ext.refl w).alloc _⟩
  ·have g0 : decide (k < 0) = false := decide_eq_false h0
   have g24 : decide (24 < k) = true := decide_eq_true (by omega)
   clear hk h0
   show Calls Tryz.prog 44 #[.agg #[.int .i64 k, .string a, .string t, .int .i64 n, .slice qn nl cn, .slice ql kl cl]] w _
   go_enter Tryz.func44, Tryz.ntmps44
   go_wp2_with fail
   go_ret
   exact ⟨rfl, (Ext.refl w).alloc _⟩
theorem rmayn_any : ∀ (d : Nat) (w : World) (ok : Nat → Prop) (v : Value) (x : Nd), SzN x → NodeAt ok w d v x → Calls Tryz.prog 44 #[v] w fun e w' => e = .returned (.bool (rmayN x)) ∧ Ext w w'
 | 0, w, ok, v, x, hs, h => by
  obtain ⟨qn, cn, ql, cl, rfl, hn, hk⟩ := h.parts
  exact rmay_step w ok 0 x qn cn ql cl hs hn hk (SubN.zero hk)
 | d + 1, w, ok, v, x, hs, h => by
  obtain ⟨qn, cn, ql, cl, rfl, hn, hk⟩ := h.parts
  exact rmay_step w ok (d + 1) x qn cn ql cl hs hn hk (fun y hy W v' _ hn => rmayn_any d W ok v' y (hs.out.sub y hy) hn)
theorem rcheck_any (d : Nat) (w : World) (ok : Nat → Prop) (v : Value) (x : Nd) (hs : SzN x) (h : NodeAt ok w d v x) :
  Calls Tryz.prog 21 #[v] w fun e w' => e = .returned (.bool (rcheckN x)) ∧ Ext w w' := by
 have HD := Lib.hid (fun W (e : Ext w W) => rdeep_any 100 (by omega) W ok d v x hs (h.ext e))
 have HM := Lib.hid (fun W (e : Ext w W) => rmayn_any d W ok v x hs (h.ext e))
 obtain ⟨r, hr⟩ : ∃ r, rcheckN x = r := ⟨_, rfl⟩
 rw [hr]
 have HR := Lib.hid (show (x.k == 0 && deepN 100 x && rmayN x) = r from hr)
 obtain ⟨qn, cn, ql, cl, rfl, _, _⟩ := h.parts
 have HE := Lib.hid ((Ext.refl w).alloc (ndO x (.slice qn x.names.length cn) (.slice ql x.kids.length cl)))
 have HBX := Lib.hid (fun W => nd_box (w := w) (W := W) (x := x) (nv := .slice qn x.names.length cn) (lv := .slice ql x.kids.length cl))
 have hwk : IntKind.i64.wrap x.k = x.k := IntWalk.i64_in _ hs.out.k
 clear h hs hr
 generalize x.names.length = nl at *
 generalize x.kids.length = kl at *
 cases h0 : (x.k == 0) with
 | false =>
  have hrr : r = false := by rw [← HR.out, h0]; rfl
  subst hrr
  go_enter Tryz.func21, Tryz.ntmps21
  go_wp2_with fail
  go_ret
  exact ⟨rfl, HE.out⟩
 | true =>
  have HR2 : Hid ((deepN 100 x && rmayN x) = r) := Lib.hid (by rw [← HR.out, h0]; rfl)
  clear HR
  go_enter Tryz.func21, Tryz.ntmps21
  go_wp2_with fail
  refine (HD.out _ HE.out).mono ?_
  rintro e w1 ⟨rfl, e1⟩
  have E1 := Lib.hid (HE.out.trans e1)
  obtain ⟨c0, c1, c2, c3, c4, c5⟩ := HBX.out w1 e1
  clear e1 HD
  cases hd : deepN 100 x with
  | false =>
   have hrr : r = false := by rw [← HR2.out, hd]; rfl
   subst hrr
   clear hd
   go_wp2_with fail
   go_ret
   exact ⟨rfl, E1.out⟩
  | true =>
   have HR3 : Hid (rmayN x = r) := Lib.hid (by rw [← HR2.out, hd]; rfl)
   clear hd
   go_wp2_with fail
   refine (HM.out _ E1.out).mono ?_
   rintro e w2 ⟨rfl, e2⟩
   have E2 := Lib.hid (E1.out.trans e2)
   clear e2 HM
   rw [HR3.out]
   go_wp2_with fail
   go_ret
   exact ⟨rfl, E2.out⟩
end Go.Proofs.YtkbcnacjaakleaaGreatDoor
namespace Go.Proofs.YtkbcnacjaakleaaGreatDoor
open Go.RowKit

mutual
theorem preN_len : ∀ x : Nd, (preN x).length = cntN x
 | .mk k a t n ns ks => by simp only [preN, cntN, List.length_cons]; rw [preL_len ks]; omega
theorem preL_len : ∀ l : List Nd, (preL l).length = cntL l
 | [] => rfl
 | x :: l => by simp only [preL, cntL, List.length_append]; rw [preN_len x, preL_len l]
end
mutual
theorem sameN_self : ∀ x : Nd, sameN x x = true
 | .mk k a t n ns ks => by simp only [sameN]; rw [sameL_self ks, (ba_iff a a).2 rfl, (ba_iff t t).2 rfl, names_beq]; simp
theorem sameL_self : ∀ l : List Nd, sameL l l = true
 | [] => rfl
 | x :: l => by simp only [sameL]; rw [sameN_self x, sameL_self l]; rfl
end
theorem Small.count {x : Nd} (h : Small x 300) : countT x = rcntN x 300 := by
 have h1 := h.cnt
 unfold countT
 rw [preN_len, rcnt_is x 300 h1, if_pos (by omega)]
theorem law_check (w : World) (hL : Laid w) (dx dy : Nat) (u v : Value) (x y : Nd) (hsx : SzN x) (hsy : SzN y) (hx : NodeAt (· < w.heap.size) w dx u x) (hy : NodeAt (· < w.heap.size) w dy v y) :
    Calls Tryz.prog 5 #[u, v] w fun e w' => e = .returned (.bool true) ∧ Ext w w' := by
  obtain ⟨qn, cn, ql, cl, rfl, _, _⟩ := hx.parts
  obtain ⟨qn2, cn2, ql2, cl2, rfl, _, _⟩ := hy.parts
  obtain ⟨nn, hnn⟩ : ∃ n, x.names.length = n := ⟨_, rfl⟩
  obtain ⟨kn, hkn⟩ : ∃ n, x.kids.length = n := ⟨_, rfl⟩
  obtain ⟨nn2, hnn2⟩ : ∃ n, y.names.length = n := ⟨_, rfl⟩
  obtain ⟨kn2, hkn2⟩ : ∃ n, y.kids.length = n := ⟨_, rfl⟩
  rw [hnn, hkn] at hx ⊢
  rw [hnn2, hkn2] at hy ⊢
  have HX := Lib.hid (fun W (e : Ext w W) => hx.ext e)
  have HY := Lib.hid (fun W (e : Ext w W) => hy.ext e)
  have HL := Lib.hid (fun W (e : Ext w W) => hL.ext e)
  have HSX := Lib.hid hsx
  have HSY := Lib.hid hsy
  have E2 := Lib.hid (((Ext.refl w).alloc (.cells #[.int .i64 x.k, .string x.name, .string x.text, .int .i64 x.n, .slice qn nn cn, .slice ql kn cl] 28)).alloc (.cells #[.int .i64 y.k, .string y.name, .string y.text, .int .i64 y.n, .slice qn2 nn2 cn2, .slice ql2 kn2 cl2] 28))
  have BX := Lib.hid (show Blk ((w.alloc (.cells #[.int .i64 x.k, .string x.name, .string x.text, .int .i64 x.n, .slice qn nn cn, .slice ql kn cl] 28)).alloc (.cells #[.int .i64 y.k, .string y.name, .string y.text, .int .i64 y.n, .slice qn2 nn2 cn2, .slice ql2 kn2 cl2] 28)) w.heap.size 28 #[.int .i64 x.k, .string x.name, .string x.text, .int .i64 x.n, .slice qn nn cn, .slice ql kn cl] from (Blk.new w _ _).alloc _)
  have BY := Lib.hid (show Blk ((w.alloc (.cells #[.int .i64 x.k, .string x.name, .string x.text, .int .i64 x.n, .slice qn nn cn, .slice ql kn cl] 28)).alloc (.cells #[.int .i64 y.k, .string y.name, .string y.text, .int .i64 y.n, .slice qn2 nn2 cn2, .slice ql2 kn2 cl2] 28)) (w.heap.size + 1) 28 #[.int .i64 y.k, .string y.name, .string y.text, .int .i64 y.n, .slice qn2 nn2 cn2, .slice ql2 kn2 cl2] from new_at (by simp) _)
  clear hx hy hL hsx hsy
  go_enter Tryz.func5, Tryz.ntmps5
  go_wp2_with fail
  generalize ((w.alloc (.cells #[.int .i64 x.k, .string x.name, .string x.text, .int .i64 x.n, .slice qn nn cn, .slice ql kn cl] 28)).alloc (.cells #[.int .i64 y.k, .string y.name, .string y.text, .int .i64 y.n, .slice qn2 nn2 cn2, .slice ql2 kn2 cl2] 28)) = W2 at *
  refine (large_any dx W2 _ _ x HSX.out (HX.out _ E2.out)).mono ?_
  rintro e W3 ⟨g1, rfl, e3, hb1⟩
  have E3 := Lib.hid (E2.out.trans e3)
  have BX3 := Lib.hid (BX.out.ext e3)
  have BY3 := Lib.hid (BY.out.ext e3)
  clear e3 BX BY E2
  cases g1 with
  | true =>
    go_wp2_with fail
    refine (known12_any W3 (HL.out _ E3.out)).mono ?_
    rintro e W4 ⟨rfl, e4⟩
    go_wp2_with fail
    go_ret
    exact ⟨rfl, E3.out.trans e4⟩
  | false =>
    have BX := BX3
    have BY := BY3
    have SX := Lib.hid (hb1 rfl)
    clear BX3 BY3 hb1
    have a0 := BX.out.cell 0
    have a1 := BX.out.cell 1
    have a2 := BX.out.cell 2
    have a3 := BX.out.cell 3
    have a4 := BX.out.cell 4
    have a5 := BX.out.cell 5
    have b0 := BY.out.cell 0
    have b1 := BY.out.cell 1
    have b2 := BY.out.cell 2
    have b3 := BY.out.cell 3
    have b4 := BY.out.cell 4
    have b5 := BY.out.cell 5
    simp only [List.getElem?_toArray, List.getElem?_cons_zero, List.getElem?_cons_succ] at a0 a1 a2 a3 a4 a5 b0 b1 b2 b3 b4 b5
    go_wp2_with fail
    refine (large_any dy W3 _ _ y HSY.out (HY.out _ E3.out)).mono ?_
    rintro e W4 ⟨g2, rfl, e4, _⟩
    have E4 := Lib.hid (E3.out.trans e4)
    have BX4 := Lib.hid (BX.out.ext e4)
    have BY4 := Lib.hid (BY.out.ext e4)
    clear a0 a1 a2 a3 a4 a5 b0 b1 b2 b3 b4 b5
    clear e4 BX BY E3
    cases g2 with
    | true =>
      go_wp2_with fail
      refine (known12_any W4 (HL.out _ E4.out)).mono ?_
      rintro e W5 ⟨rfl, e5⟩
      go_wp2_with fail
      go_ret
      exact ⟨rfl, E4.out.trans e5⟩
    | false =>
      have BX := BX4
      have BY := BY4
      clear BX4 BY4
      have a0 := BX.out.cell 0
      have a1 := BX.out.cell 1
      have a2 := BX.out.cell 2
      have a3 := BX.out.cell 3
      have a4 := BX.out.cell 4
      have a5 := BX.out.cell 5
      have b0 := BY.out.cell 0
      have b1 := BY.out.cell 1
      have b2 := BY.out.cell 2
      have b3 := BY.out.cell 3
      have b4 := BY.out.cell 4
      have b5 := BY.out.cell 5
      simp only [List.getElem?_toArray, List.getElem?_cons_zero, List.getElem?_cons_succ] at a0 a1 a2 a3 a4 a5 b0 b1 b2 b3 b4 b5
      go_wp2_with fail
      refine (check_any dx W4 (HL.out _ E4.out) _ _ x HSX.out (HX.out _ E4.out)).mono ?_
      rintro e W5 ⟨rfl, e5⟩
      have E5 := Lib.hid (E4.out.trans e5)
      have BX5 := Lib.hid (BX.out.ext e5)
      have BY5 := Lib.hid (BY.out.ext e5)
      clear a0 a1 a2 a3 a4 a5 b0 b1 b2 b3 b4 b5
      clear e5 BX BY E4
      have BX := BX5
      have BY := BY5
      clear BX5 BY5
      have hchk := SX.out.check HSX.out
      obtain ⟨kc, hkc⟩ : ∃ kc, countT x = kc := ⟨_, rfl⟩
      have hkr : rcntN x 300 = kc := by rw [← hkc]; exact SX.out.count.symm
      obtain ⟨bs, hbs⟩ : ∃ bs, sameN x y = bs := ⟨_, rfl⟩
      obtain ⟨bc, hbc⟩ : ∃ bc, checkN x = bc := ⟨_, rfl⟩
      rw [hbc] at hchk ⊢
      have LW := Lib.hid (fun W (e : Ext W5 W) => HX.out _ (E5.out.trans e))
      have Q1 := Lib.hid (fun wq (hq : Ext W5 wq) => Calls.ext_of hq (hchk ▸ rcheck_any dx wq _ _ x HSX.out (HX.out _ (E5.out.trans hq))))
      have Q2 := Lib.hid (fun wq (hq : Ext W5 wq) => Calls.ext_of hq (hbs ▸ same_nd dx dy wq _ _ _ _ x y HSX.out HSY.out (HX.out _ (E5.out.trans hq)) (HY.out _ (E5.out.trans hq))))
      have Q3 := Lib.hid (fun wq (hq : Ext W5 wq) => Calls.ext_of hq ((sameN_self x) ▸ same_nd dx dx wq _ _ _ _ x x HSX.out HSX.out (HX.out _ (E5.out.trans hq)) (HX.out _ (E5.out.trans hq))))
      have Q4 := Lib.hid (fun wq (hq : Ext W5 wq) => Calls.ext_of hq (hbs ▸ rsame_nd dx dy wq _ _ _ _ x y HSX.out HSY.out (HX.out _ (E5.out.trans hq)) (HY.out _ (E5.out.trans hq))))
      have Q5 := Lib.hid (fun wq (hq : Ext W5 wq) => Calls.ext_of hq (hkc ▸ scount_any dx wq x _ HSX.out ((HX.out _ (E5.out.trans hq)).imp (fun b _ (hb : b < w.heap.size) => Nat.lt_of_lt_of_le hb (E5.out.trans hq).le))))
      have Q6 := Lib.hid (fun wq (hq : Ext W5 wq) => Calls.ext_of hq (show Calls Tryz.prog 15 #[ndV x (.slice qn nn cn) (.slice ql kn cl), .int .i64 300] wq fun e w' => e = .returned (.int .i64 (kc : Int)) ∧ Ext wq w' from hkr ▸ rcount_any dx wq _ _ x HSX.out (HX.out _ (E5.out.trans hq)) 300 (by omega)))
      have Q7 := Lib.hid (fun wq (hq : Ext W5 wq) => Calls.ext_of hq (known12_any wq (HL.out _ (E5.out.trans hq))))
      clear hchk hkc hkr hbs hbc LW
      have a0 := BX.out.cell 0
      have a1 := BX.out.cell 1
      have a2 := BX.out.cell 2
      have a3 := BX.out.cell 3
      have a4 := BX.out.cell 4
      have a5 := BX.out.cell 5
      have b0 := BY.out.cell 0
      have b1 := BY.out.cell 1
      have b2 := BY.out.cell 2
      have b3 := BY.out.cell 3
      have b4 := BY.out.cell 4
      have b5 := BY.out.cell 5
      simp only [List.getElem?_toArray, List.getElem?_cons_zero, List.getElem?_cons_succ] at a0 a1 a2 a3 a4 a5 b0 b1 b2 b3 b4 b5
      cases bc <;> cases bs
      all_goals simp only [if_true, Bool.false_eq_true, if_false]
      all_goals go_wp2_with fail
      all_goals (
        refine wp_region_ext (by kernel_rfl) (by kernel_rfl) ?_
        repeat (
          first
            | go_big_quiet_skip
            | (go_big_quiet_want
               go_big_quiet_op
               first
                 | go_big_quiet_on
                 | (apply Exists.intro
                    refine ⟨fun wq hq => ?_, ?_⟩
                    focus (
                      have a0 := hq.cell a0
                      have a1 := hq.cell a1
                      have a2 := hq.cell a2
                      have a3 := hq.cell a3
                      have a4 := hq.cell a4
                      have a5 := hq.cell a5
                      have b0 := hq.cell b0
                      have b1 := hq.cell b1
                      have b2 := hq.cell b2
                      have b3 := hq.cell b3
                      have b4 := hq.cell b4
                      have b5 := hq.cell b5
                      first
                        | (go_at_call 21; with_reducible exact Q1.out wq hq; done)
                        | (go_at_call 22; with_reducible exact Q2.out wq hq; done)
                        | (go_at_call 22; with_reducible exact Q3.out wq hq; done)
                        | (go_at_call 19; with_reducible exact Q4.out wq hq; done)
                        | (go_at_call 23; with_reducible exact Q5.out wq hq; done)
                        | (go_at_call 15; with_reducible exact Q6.out wq hq; done)
                        | (go_at_call 16; with_reducible exact Q7.out wq hq; done)
                        | (go_simp; exact rfl))
                    go_big_quiet_on)))
        refine wpQuiet_nil ?_
        intro we hwe)
      all_goals go_wp2_with fail
      all_goals go_ret
      all_goals exact ⟨rfl, E5.out.trans hwe⟩
end Go.Proofs.YtkbcnacjaakleaaGreatDoor
namespace Go.Proofs.YtkbcnacjaakleaaGreatDoor
open Go.ChangeShapes Go.WideShapes Go.ChangeAt Go.RowKit Go.Joins Go.Deep

abbrev laid9 : List (String × DataW Unit) := [("math/bits.deBruijn32tab", Rows.laid_math_bits_deBruijn32tab), ("math/bits.deBruijn64tab", Rows.laid_math_bits_deBruijn64tab), ("internal/strconv.uint64pow10", Rows.laid_internal_strconv_uint64pow10), ("unicode/utf8.acceptRanges", Rows.laid_unicode_utf8_acceptRanges), ("strconv.ErrRange", Rows.laid_strconv_ErrRange), ("strconv.ErrSyntax", Rows.laid_strconv_ErrSyntax), ("unicode.White_Space", Rows.laid_unicode_White_Space), ("strings.asciiSpace", Rows.laid_strings_asciiSpace), ("unicode/utf8.first", Rows.laid_unicode_utf8_first)]
theorem own : ownKnob Tryz.prog.godebug = none := by kernel_rfl
theorem starE : "*" ++ "errors.errorString" = "*errors.errorString" := by decide
theorem rowE (u : TypeId) (h : Tryz.prog.typeName? 3 u = some "*errors.errorString") : u = 322 :=
 typeName_ptr_named (nm := "errors.errorString") (by rw [starE]; kernel_rfl) (by kernel_rfl) (by decide) u (by rw [starE]; exact h)
theorem gSyn : Tryz.prog.globalNamed "strconv.ErrSyntax" = some 6 := by kernel_rfl
theorem gRng : Tryz.prog.globalNamed "strconv.ErrRange" = some 7 := by kernel_rfl
theorem asc_datum : (Rows.laid_strings_asciiSpace : DataW Unit) = Lib.tabData .u8 Lib.asciiSpaceTab := by kernel_rfl
theorem laid_of {W : World} (h : laidMetH Tryz.prog laid9 W) : Laid W := by
 refine ⟨?_, ?_, ?_, ?_⟩
 ·have h1 := laidMetH.filter (fun x => x.1 == "strings.asciiSpace") h
  have h2 : laidMetH Tryz.prog [("strings.asciiSpace", Rows.laid_strings_asciiSpace)] W := h1
  rw [asc_datum] at h2
  exact Lib.tabIs_of_head (t := 252) (e := 5) (n := 256) (rest := []) ascG (by kernel_rfl) (by kernel_rfl) (by kernel_rfl) (by kernel_rfl) (by kernel_rfl) h2
 ·exact Lib.tabIs_of_head (t := 281) (e := 237) (n := 20) (rest := []) powG (by kernel_rfl) (by kernel_rfl) (by kernel_rfl) (by kernel_rfl) (by kernel_rfl) (laidMetH.filter (fun x => x.1 == "internal/strconv.uint64pow10") h)
 ·obtain ⟨a, s, hv, _⟩ := laid_sentinel (r := []) (text := [105, 110, 118, 97, 108, 105, 100, 32, 115, 121, 110, 116, 97, 120]) (laidMetH.filter (fun x => x.1 == "strconv.ErrSyntax") h) gSyn (by kernel_rfl) Tryz.underlying192 rowE Tryz.underlying322 Tryz.underlying324 rfl rfl Tryz.underlying9 (by kernel_rfl) (by kernel_rfl)
  exact ⟨_, _, by have h0 := World.var?_cell gSyn hv 0; simpa using h0⟩
 ·obtain ⟨a, s, hv, _⟩ := laid_sentinel (r := []) (text := [118, 97, 108, 117, 101, 32, 111, 117, 116, 32, 111, 102, 32, 114, 97, 110, 103, 101]) (laidMetH.filter (fun x => x.1 == "strconv.ErrRange") h) gRng (by kernel_rfl) Tryz.underlying192 rowE Tryz.underlying322 Tryz.underlying324 rfl rfl Tryz.underlying9 (by kernel_rfl) (by kernel_rfl)
  exact ⟨_, _, by have h0 := World.var?_cell gRng hv 0; simpa using h0⟩
theorem laid9_met (os : Os) (args : Array Value) : laidMet Tryz.prog laid9 ((World.laidAll Tryz.prog os laid9).forCall (fun _ _ => 0) ⟨#[], args, []⟩).memory :=
 laidMet_laidAll args (by kernel_rfl) (by kernel_rfl)
theorem laidOut : laidOutB Tryz.prog = true := by kernel_rfl
variable {H : Type} {enc : TypeId × Value → H}
theorem trodAll_ext {P : Program} (hl : laidOutB P = true) {W W' : World} (hb : Below W.heap.size W W') :
  ∀ {ts : List TypeId} {vs : List Value} {ds : List (DataW H)} {ps : List MemPlace}, (ts.all fun t => P.readableRec t && decide (t < P.types.size)) = true → DataW.TrodAll enc P W 0 (fun _ => true) true ts vs ds ps → (∀ x ∈ ps, x.block < W.heap.size) → DataW.TrodAll enc P W' 0 (fun b => decide (b < W.heap.size)) true ts vs ds ps
 | [], [], [], _, _, h, _ => h
 | t :: ts, v :: vs, d :: ds, ps, hr, h, hlt => by
  obtain ⟨p, q, h1, h2, e⟩ := h
  simp only [List.all_cons, Bool.and_eq_true, decide_eq_true_eq] at hr
  subst e
  exact ⟨p, q, Below.trod hl hr.1.1 hr.1.2 h1 hb (fun x hx => hlt x (by simp [hx])), trodAll_ext hl hb (by simpa using hr.2) h2 (fun x hx => hlt x (by simp [hx])), rfl⟩
 | [], _ :: _, _, _, _, h, _ => h.elim
 | [], [], _ :: _, _, _, h, _ => h.elim
 | _ :: _, [], _, _, _, h, _ => h.elim
 | _ :: _, _ :: _, [], _, _, h, _ => h.elim
theorem post_grown {P : Program} {f : Func} {s : ChangeSpec} {apart fresh handsOn : Bool} {W W' : World} {args : Array Value} {v : Value} {ds gs : List (DataW H)} {before : List MemPlace}
  (hl : laidOutB P = true) (hr : (f.params.toList.all fun t => P.readableRec t && decide (t < P.types.size)) = true) (hvar : s.vars = [])
  (hW : DataW.Whole enc P f.params.toList s.vars apart W args.toList ds gs before)
  (hres : ∀ (b : Nat) (sp : Nat → Bool) (hd : Bool), DataW.TrodAll enc P W' b sp hd f.resultTypes.toList (v.resultList f.resultTypes.size) (s.fn H (ds ++ gs)).results [])
  (ha : (s.fn H (ds ++ gs)).args = ds) (hv : (s.fn H (ds ++ gs)).vars = [])
  (he : Ext W W') :
  s.post enc P f apart fresh handsOn false W args v W' := by
 have hlt := hW.lt
 have hW' := hW
 obtain ⟨p, q, hA, hV, rfl, hfz, hnd⟩ := hW
 refine ⟨ds, gs, _, [], p, [], hW', hres _ _ _, ?_, ?_, Below.frame he _, fun h => by cases h⟩
 ·rw [ha]
  exact trodAll_ext hl he hr hA (fun x hx => hlt x (by simp [hx]))
 ·rw [hvar, hv]; exact rfl
end Go.Proofs.YtkbcnacjaakleaaGreatDoor
namespace Go.Proofs.YtkbcnacjaakleaaGreatDoor
open Go.ChangeShapes Go.WideShapes Go.ChangeAt Go.RowKit Go.Joins Go.Deep

theorem i64_wf {n : Int} (h : (Lit.int .i64 n).wf = true) : -9223372036854775808 ≤ n ∧ n ≤ 9223372036854775807 := by
 simp [Lit.wf, IntKind.min, IntKind.max, IntKind.signed, IntKind.bits] at h
 omega
theorem cell_plain {w : World} {a : Addr} {v : Value} (h : w.cell? a = some v) : a.spot = none := by
 unfold World.cell? at h
 split at h
 ·split at h
  ·cases h
  ·rename_i hs; simpa using hs
 ·cases h
theorem plain_eq {a : Addr} (h : a.spot = none) : a = ⟨a.block, a.off, none⟩ := by cases a; simp at h; subst h; rfl
theorem add_at (b o k : Nat) : (⟨b, o, none⟩ : Addr).add k = ⟨b, o + k, none⟩ := by
 unfold Addr.add
 split
 ·rename_i h; subst h; rfl
 ·rfl
theorem head_plain {w : World} {base : Nat} {a : Addr} {n : Nat} {cs : List Value} (h : w.cells? base (a.add (0 * n)) n = some cs) (hn : 0 < n) : a = ⟨a.block, a.off, none⟩ := by
 obtain ⟨_, hl, hc⟩ := World.cells?_some h
 have h0 := hc 0 hn
 rw [List.getElem?_eq_getElem (by omega)] at h0
 have := cell_plain h0
 simp [Addr.add] at this
 exact plain_eq this
variable {H : Type} {enc : TypeId × Value → H} {w : World} {base : Nat} {sp : Nat → Bool} {hd : Bool}
theorem ncell_int64 : Tryz.prog.cellsOf 2 = 1 := by kernel_rfl
theorem ncell_kind : Tryz.prog.cellsOf 24 = 1 := by kernel_rfl
theorem ncell_text : Tryz.prog.cellsOf 9 = 1 := by kernel_rfl
theorem ncell_texts : Tryz.prog.cellsOf 25 = 1 := by kernel_rfl
theorem ncell_nodes : Tryz.prog.cellsOf 26 = 1 := by kernel_rfl
theorem ncell_node : Tryz.prog.cellsOf 28 = 6 := by kernel_rfl
theorem nuInt64 : Tryz.prog.underlying 2 = some (.int .i64) := by kernel_rfl
theorem nuKind : Tryz.prog.underlying 24 = some (.int .i64) := by kernel_rfl
theorem nuStr : Tryz.prog.underlying 9 = some .string := by kernel_rfl
instance : Inhabited Nd := ⟨.mk 0 ⟨#[]⟩ ⟨#[]⟩ 0 [] []⟩
theorem wts_all {P : Program} {e : TypeId} : ∀ (l : List (DataW H)) (d : DataW H), d ∈ l → ∀ n ∈ d.weights P e, n ∈ DataW.weightsAll P e l
 | x :: l, d, h, n, hn => by
  rcases List.mem_cons.mp h with rfl | h
  ·simp only [DataW.weightsAll, List.mem_append]; exact .inl hn
  ·simp only [DataW.weightsAll, List.mem_append]; exact .inr (wts_all l d h n hn)
theorem wts_slice {P : Program} {t e : TypeId} (hu : P.underlying t = some (.slice e)) (l sp : List (DataW H)) (d : DataW H) (hd : d ∈ l) (n : Nat) (hn : n ∈ d.weights P e) : n ∈ (DataW.slice l sp).weights P t := by
 rw [DataW.weights, hu]
 simp only [List.mem_cons, List.mem_append]
 exact .inr (.inl (wts_all l d hd n hn))
theorem slice_fuelW {P : Program} {t e : TypeId} {fuel : Nat} {cs : List Value} {x : DataW H × List MemPlace} (ht : P.underlying t = some (.slice e)) (h : DataW.trod enc P w base sp hd fuel t cs = some x) :
  cs = [.slice none 0 0] ∨ ∃ (a : Addr) (len cap n : Nat), fuel = n + 1 ∧ cs = [.slice (some a) len cap] ∧ len ≤ cap ∧ cap ≤ maxLen ∧
   (∀ (M : Nat), (∀ m ∈ x.1.weights P t, m ≤ M) → len * P.bytesOf e ≤ M) ∧
   ∀ i, i < len → ∃ cs' y, w.cells? base (a.add (i * P.cellsOf e)) (P.cellsOf e) = some cs' ∧ DataW.trod enc P w base sp hd n e cs' = some y ∧ ∀ m ∈ y.1.weights P e, m ∈ x.1.weights P t := by
 rcases DataW.trod_slice ht h with h0 | ⟨a, len, cap, elems, rest, n, hf, rfl, rfl, hb, hl, hm, hlen, hel, hsp, hns⟩
 ·exact .inl h0.1
 ·refine .inr ⟨a, len, cap, n, hf, rfl, hl, hm, fun M hM => ?_, fun i hi => ?_⟩
  ·refine Nat.le_trans (Nat.mul_le_mul_right _ (show len ≤ elems.length + rest.length by omega)) (hM _ ?_)
   simp only
   rw [DataW.weights, ht]
   simp
  ·have key := hel i hi
   rw [List.getElem?_eq_getElem (by omega)] at key
   obtain ⟨cs', h1, h2⟩ := Option.bind_eq_some_iff.1 key
   exact ⟨cs', _, h1, h2, fun m hm => wts_slice ht _ _ _ (List.mem_map.2 ⟨_, List.getElem_mem _, rfl⟩) m hm⟩
theorem struct6_fuel {P : Program} {t : TypeId} {f0 f1 f2 f3 f4 f5 : Field} {fuel : Nat} {cs : List Value} {x : DataW H × List MemPlace} (ht : P.underlying t = some (.struct #[f0, f1, f2, f3, f4, f5])) (h : DataW.trod enc P w base sp hd fuel t cs = some x) :
  ∃ y0 y1 y2 y3 y4 y5 n, fuel = n + 1 ∧ cs.length = P.cellsOf t ∧ DataW.trod enc P w base sp hd n f0.type ((cs.drop f0.offset).take (P.cellsOf f0.type)) = some y0 ∧
   DataW.trod enc P w base sp hd n f1.type ((cs.drop f1.offset).take (P.cellsOf f1.type)) = some y1 ∧ DataW.trod enc P w base sp hd n f2.type ((cs.drop f2.offset).take (P.cellsOf f2.type)) = some y2 ∧
   DataW.trod enc P w base sp hd n f3.type ((cs.drop f3.offset).take (P.cellsOf f3.type)) = some y3 ∧ DataW.trod enc P w base sp hd n f4.type ((cs.drop f4.offset).take (P.cellsOf f4.type)) = some y4 ∧
   DataW.trod enc P w base sp hd n f5.type ((cs.drop f5.offset).take (P.cellsOf f5.type)) = some y5 ∧
   (∀ m, m ∈ y0.1.weights P f0.type ∨ m ∈ y1.1.weights P f1.type ∨ m ∈ y2.1.weights P f2.type ∨ m ∈ y3.1.weights P f3.type ∨ m ∈ y4.1.weights P f4.type ∨ m ∈ y5.1.weights P f5.type → m ∈ x.1.weights P t) := by
 obtain ⟨xs, n, hn, rfl, hl, hlen, hf⟩ := DataW.trod_struct ht h
 match xs, hlen with
 | [y0, y1, y2, y3, y4, y5], _ =>
  refine ⟨y0, y1, y2, y3, y4, y5, n, hn, hl, by simpa using hf 0 f0 rfl, by simpa using hf 1 f1 rfl, by simpa using hf 2 f2 rfl, by simpa using hf 3 f3 rfl, by simpa using hf 4 f4 rfl, by simpa using hf 5 f5 rfl, fun m hm => ?_⟩
  simp only
  rw [DataW.weights, ht]
  simpa [DataW.weightsEach] using hm
abbrev Wb (l : List Nat) : Prop := ∀ m ∈ l, m ≤ 140737488355328
theorem str_open {n : Nat} {cs : List Value} {x : DataW H × List MemPlace} (h : DataW.trod enc Tryz.prog w base sp hd n 9 cs = some x) (hW : Wb (x.1.weights Tryz.prog 9)) : ∃ s : ByteArray, cs = [.string s] ∧ s.size ≤ 140737488355328 := by
 obtain ⟨s, e, rfl, _⟩ := DataW.trod_string nuStr h
 refine ⟨s, e, ?_⟩
 have := hW s.data.toList.length (by simp only; rw [DataW.weights]; simp)
 simpa using this
theorem nbytes_text : Tryz.prog.bytesOf 9 = 16 := by kernel_rfl
theorem nbytes_node : 1 ≤ Tryz.prog.bytesOf 28 := by
 have : Tryz.prog.bytesOf 28 = 96 := by kernel_rfl
 omega
theorem txts_open {n : Nat} {cv : Value} {y : DataW H × List MemPlace} (h : DataW.trod enc Tryz.prog w 0 sp hd n 25 [cv] = some y) (hW : Wb (y.1.weights Tryz.prog 25)) :
  ∃ l : List ByteArray, TxtsAt (· < w.heap.size) w cv l ∧ l.length ≤ 140737488355328 ∧ ∀ s ∈ l, s.size ≤ 140737488355328 := by
 rcases slice_fuelW Tryz.underlying25 h with e | ⟨a, len, cap, m, hn, e, hlc, hcm, hM, hx⟩
 ·cases e
  exact ⟨[], TxtsAt.nil _ _, by simp, by simp⟩
 ·cases e
  rw [ncell_text] at hx
  have hb := hM _ hW
  rw [nbytes_text] at hb
  have hone : ∀ i, i < len → ∃ s : ByteArray, s.size ≤ 140737488355328 ∧ a = ⟨a.block, a.off, none⟩ ∧ w.cell? ⟨a.block, a.off + i, none⟩ = some (.string s) := by
   intro i hi
   obtain ⟨cs0, _, h00, _⟩ := hx 0 (by omega)
   have hpl := head_plain h00 (by omega)
   obtain ⟨cs, y', hcs, ht, hw⟩ := hx i (by omega)
   rw [hpl, add_at, Nat.mul_one] at hcs
   obtain ⟨_, hl, hc⟩ := World.cells?_some hcs
   obtain ⟨s, e, hs⟩ := str_open ht (fun m hm => hW m (hw m hm))
   subst e
   have := hc 0 (by omega)
   exact ⟨s, hs, hpl, by simpa [add_at] using this⟩
  obtain ⟨z, hz⟩ := choose_lt hone
  refine ⟨(List.range len).map z, ⟨some a, cap, by simp, fun hl => ?_⟩, by simp; omega, ?_⟩
  ·have h0 : 0 < len := by simpa using hl
   refine ⟨a.block, a.off, by rw [← (hz 0 h0).2.1], ?_, by simpa using hlc, fun i hi => ?_⟩
   ·have := cell_lt (hz 0 h0).2.2
    exact this
   ·have hi' : i < len := by simpa using hi
    have := (hz i hi').2.2
    simpa using this
  ·intro s hs
   simp only [List.mem_map, List.mem_range] at hs
   obtain ⟨i, hi, rfl⟩ := hs
   exact (hz i hi).1
theorem nodes_open : ∀ (n : Nat) (cv : Value) (y : DataW H × List MemPlace), DataW.trod enc Tryz.prog w 0 sp hd n 26 [cv] = some y → Wb (y.1.weights Tryz.prog 26) →
  ∃ l : List Nd, KidsAt (· < w.heap.size) w n cv l ∧ SzL l ∧ l.length ≤ 140737488355328 := by
 intro n
 induction n using Nat.strongRecOn with
 | _ n ih =>
  intro cv y h hW
  rcases slice_fuelW Tryz.underlying26 h with e | ⟨a, len, cap, m, hn, e, hlc, hcm, hM, hx⟩
  ·cases e
   exact ⟨[], KidsAt.nil _ _ _, trivial, by simp⟩
  ·cases e
   rw [ncell_node] at hx
   have hb := hM _ hW
   have hb1 := Nat.mul_le_mul_left len nbytes_node
   subst hn
   have hone : ∀ i, i < len → ∃ z : Nd, SzN z ∧ a = ⟨a.block, a.off, none⟩ ∧ w.cell? ⟨a.block, a.off + i * 6, none⟩ = some (.int .i64 z.k) ∧ w.cell? ⟨a.block, a.off + i * 6 + 1, none⟩ = some (.string z.name) ∧ w.cell? ⟨a.block, a.off + i * 6 + 2, none⟩ = some (.string z.text) ∧
     w.cell? ⟨a.block, a.off + i * 6 + 3, none⟩ = some (.int .i64 z.n) ∧ ∃ nv lv, w.cell? ⟨a.block, a.off + i * 6 + 4, none⟩ = some nv ∧ w.cell? ⟨a.block, a.off + i * 6 + 5, none⟩ = some lv ∧ TxtsAt (· < w.heap.size) w nv z.names ∧ KidsAt (· < w.heap.size) w m lv z.kids := by
    intro i hi
    obtain ⟨cs0, _, h00, _⟩ := hx 0 (by omega)
    have hpl := head_plain h00 (by omega)
    obtain ⟨cs, y', hcs, ht, hw⟩ := hx i (by omega)
    rw [hpl, add_at] at hcs
    obtain ⟨_, hl, hc⟩ := World.cells?_some hcs
    obtain ⟨y0, y1, y2, y3, y4, y5, k, hk, _, t0, t1, t2, t3, t4, t5, hw6⟩ := struct6_fuel Tryz.underlying28 ht
    match cs, hl with
    | [v0, v1, v2, v3, v4, v5], _ =>
     simp only [ncell_kind, ncell_int64, ncell_text, ncell_texts, ncell_nodes, List.drop_zero, List.drop_succ_cons, List.take_succ_cons, List.take_zero] at t0 t1 t2 t3 t4 t5
     obtain ⟨x0, e0, _, w0⟩ := DataW.trod_int nuKind t0
     obtain ⟨s1, e1, z1⟩ := str_open t1 (fun m hm => hW m (hw m (hw6 m (by simp [hm]))))
     obtain ⟨s2, e2, z2⟩ := str_open t2 (fun m hm => hW m (hw m (hw6 m (by simp [hm]))))
     obtain ⟨x3, e3, _, w3⟩ := DataW.trod_int nuInt64 t3
     obtain ⟨ns, hn1, hn2, hn3⟩ := txts_open t4 (fun m hm => hW m (hw m (hw6 m (by simp [hm]))))
     obtain ⟨l, hl1, hl2, hl3⟩ := ih k (by omega) v5 y5 t5 (fun m hm => hW m (hw m (hw6 m (by simp [hm]))))
     simp only [List.cons.injEq, and_true] at e0 e1 e2 e3
     subst e0 e1 e2 e3
     refine ⟨.mk x0 s1 s2 x3 ns l, ?_, hpl, ?_, ?_, ?_, ?_, v4, v5, ?_, ?_, hn1, hl1.upto (by omega)⟩
     ·simp only [SzN]
      exact ⟨⟨i64_wf w0, i64_wf w3, z1, z2, hn2, hn3, hl3⟩, hl2⟩
     ·have := hc 0 (by omega); rw [add_at] at this; exact this
     ·have := hc 1 (by omega); rw [add_at] at this; exact this
     ·have := hc 2 (by omega); rw [add_at] at this; exact this
     ·have := hc 3 (by omega); rw [add_at] at this; exact this
     ·have := hc 4 (by omega); rw [add_at] at this; exact this
     ·have := hc 5 (by omega); rw [add_at] at this; exact this
   obtain ⟨z, hz⟩ := choose_lt hone
   refine ⟨(List.range len).map z, ⟨some a, cap, by simp, fun hl => ?_⟩, SzL.of ?_, by simp; omega⟩
   ·have h0 : 0 < len := by simpa using hl
    refine ⟨a.block, a.off, by rw [← (hz 0 h0).2.1], ?_, by simpa using hlc, fun i hi => ?_⟩
    ·have := cell_lt (hz 0 h0).2.2.1
     exact this
    ·have hi' : i < len := by simpa using hi
     have := (hz i hi').2.2
     simpa using this
   ·intro x hx
    simp only [List.mem_map, List.mem_range] at hx
    obtain ⟨i, hi, rfl⟩ := hx
    exact (hz i hi).1
theorem node_open {v : Value} {d : DataW H} {pl : List MemPlace} {r : Reach} {b0 : Nat} (hv : Value.okWide Tryz.prog w r b0 28 v) (h : DataW.Trod enc Tryz.prog w 0 sp hd 28 v d pl) (hW : Wb (d.weights Tryz.prog 28)) :
  ∃ (x : Nd) (D : Nat), NodeAt (· < w.heap.size) w D v x ∧ SzN x := by
 obtain ⟨cs, rfl, hsz⟩ := okWide_struct Tryz.underlying28 hv
 obtain ⟨v0, v1, v2, v3, v4, v5, rfl⟩ : ∃ v0 v1 v2 v3 v4 v5, cs = #[v0, v1, v2, v3, v4, v5] := by
  have hs : cs.size = 6 := hsz.trans ncell_node
  obtain ⟨cs⟩ := cs
  match cs, hs with
  | [v0, v1, v2, v3, v4, v5], _ => exact ⟨v0, v1, v2, v3, v4, v5, rfl⟩
 obtain ⟨fuel, hf⟩ := h
 obtain ⟨y0, y1, y2, y3, y4, y5, k, _, _, t0, t1, t2, t3, t4, t5, hw6⟩ := struct6_fuel Tryz.underlying28 hf
 simp only [Value.cells, ncell_kind, ncell_int64, ncell_text, ncell_texts, ncell_nodes, List.drop_zero, List.drop_succ_cons, List.take_succ_cons, List.take_zero] at t0 t1 t2 t3 t4 t5
 obtain ⟨x0, e0, _, w0⟩ := DataW.trod_int nuKind t0
 obtain ⟨s1, e1, z1⟩ := str_open t1 (fun m hm => hW m (hw6 m (by simp [hm])))
 obtain ⟨s2, e2, z2⟩ := str_open t2 (fun m hm => hW m (hw6 m (by simp [hm])))
 obtain ⟨x3, e3, _, w3⟩ := DataW.trod_int nuInt64 t3
 obtain ⟨ns, hn1, hn2, hn3⟩ := txts_open t4 (fun m hm => hW m (hw6 m (by simp [hm])))
 obtain ⟨l, hl1, hl2, hl3⟩ := nodes_open _ v5 y5 t5 (fun m hm => hW m (hw6 m (by simp [hm])))
 simp only [List.cons.injEq, and_true] at e0 e1 e2 e3
 subst e0 e1 e2 e3
 refine ⟨.mk x0 s1 s2 x3 ns l, _, ⟨v4, v5, rfl, hn1, hl1⟩, ?_⟩
 simp only [SzN]
 exact ⟨⟨i64_wf w0, i64_wf w3, z1, z2, hn2, hn3, hl3⟩, hl2⟩
end Go.Proofs.YtkbcnacjaakleaaGreatDoor
