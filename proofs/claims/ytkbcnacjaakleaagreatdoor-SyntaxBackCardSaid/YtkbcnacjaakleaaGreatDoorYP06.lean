/- The document's kids: blocks, branches, tables. tabor.tree: what a kind's Kids may be: each shape's question. -/
import Derived.Test.YtkbcnacjaakleaaGreatDoorYScG
set_option maxRecDepth 100000
set_option maxHeartbeats 32000000
set_option linter.unusedVariables false
set_option linter.unusedSimpArgs false
namespace Go.Proofs.YtkbcnacjaakleaaGreatDoor
open Go.RowKit

theorem blockFrom_drop (l : List Nd) (j : Nat) (h : j < l.length) : blockFrom (l.drop j) = ((stmtK l[j].k && (decide (j + 1 = l.length) || !(l[j].k == 7 || l[j].k == 8))) && blockFrom (l.drop (j + 1))) := by
 rw [List.drop_eq_getElem_cons h]
 simp only [blockFrom]
 have : (l.drop (j + 1)).isEmpty = decide (j + 1 = l.length) := by
  rw [Bool.eq_iff_iff, List.isEmpty_iff, decide_eq_true_eq, List.drop_eq_nil_iff]
  omega
 rw [this]
theorem branchFrom_drop (n : Nat) (l : List Nd) (j : Nat) (h : j < l.length) : branchFrom n j (l.drop j) = ((condP j n == exprK l[j].k && (condP j n || l[j].k == 0)) && branchFrom n (j + 1) (l.drop (j + 1))) := by
 rw [List.drop_eq_getElem_cons h]
 simp only [branchFrom]
def KidsF (bs : List (Nat × Int)) (F : Nat) (lb : Array Value) (p : List Nd → Bool) : Prop :=
 ∀ (W : World) (ok : Nat → Prop) (d : Nat) (v : Value) (l : List Nd), (∀ p ∈ bs, Blk W p.1 3 #[.int .i64 p.2]) → KidsAt ok W d v l → l.length ≤ 140737488355328 → Calls Tryz.prog F (#[v] ++ lb) W fun e w' => e = .returned (.bool (p l)) ∧ Ext W w'
theorem kf_exprs (w : List (Nat × Int)) : KidsF w 126 #[] exprsP := fun W ok d v l _ h hl => exprs_any W ok d v l h hl
theorem kf_count (w : List (Nat × Int)) (B : Nat) (n : Nat) (hB : (B, (n : Int)) ∈ w) : KidsF w 205 #[.pointer (some ⟨B, 0, none⟩)] (countP n) := fun W ok d v l he h hl => by
 try dsimp only
 have cE := exprs_any W ok d v l h hl
 obtain ⟨q, c, rfl⟩ := h.slice
 have hb := (he _ hB).cell 0
 simp only [List.getElem?_toArray, List.getElem?_cons_zero] at hb
 obtain ⟨r, hr⟩ : ∃ r, countP n l = r := ⟨_, rfl⟩
 rw [hr]
 have HR := Lib.hid (show (l.length == n && exprsP l) = r from hr)
 obtain ⟨m, hm⟩ : ∃ m, l.length = m := ⟨_, rfl⟩
 have HM := Lib.hid hm
 rw [hm] at cE ⊢
 have HC := Lib.hid cE
 clear hr h hm cE hl
 by_cases hmn : m = n
 ·have e1 : ((m : Int) == (n : Int)) = true := beq_iff_eq.2 (by omega)
  have hrr : Hid (exprsP l = r) := Lib.hid (by rw [← HR.out, HM.out, hmn, beq_self_eq_true, Bool.true_and])
  clear hmn HR
  rw [hrr.out] at HC
  go_enter Tryz.func205, Tryz.ntmps205
  go_wp2_with fail
  refine HC.out.mono ?_
  rintro e w1 ⟨rfl, e1⟩
  have E1 := Lib.hid e1
  clear e1
  go_wp2_with fail
  go_ret
  exact ⟨rfl, E1.out⟩
 ·have e1 : ((m : Int) == (n : Int)) = false := beq_eq_false_iff_ne.2 (by omega)
  have hrr : r = false := by rw [← HR.out, HM.out, beq_eq_false_iff_ne.2 hmn, Bool.false_and]
  subst hrr
  clear hmn HR HC
  go_enter Tryz.func205, Tryz.ntmps205
  go_wp2_with fail
  go_ret
  exact ⟨rfl, Ext.refl W⟩
theorem kf_assign (w : List (Nat × Int)) : KidsF w 127 #[] assignP := fun W ok d v l he h hl => by
 try dsimp only
 have cE := exprs_any W ok d v l h hl
 obtain ⟨q, c, rfl⟩ := h.slice
 obtain ⟨r, hr⟩ : ∃ r, assignP l = r := ⟨_, rfl⟩
 rw [hr]
 have HR := Lib.hid hr
 obtain ⟨m, hm⟩ : ∃ m, l.length = m := ⟨_, rfl⟩
 have HM := Lib.hid hm
 by_cases hmn : m = 2
 ·have kl : 0 < l.length := by omega
  obtain ⟨b, o, qn, cn, ql, cl, rfl, d0, g1, g2, g3, g4, g5, g6⟩ := h.node kl
  clear g1 g2 g3 g4 g5 g6
  rw [Nat.zero_mul, Nat.add_zero] at d0
  obtain ⟨z, hz⟩ : ∃ z, l[0].k = z := ⟨_, rfl⟩
  rw [hz] at d0
  have HZ : Hid (r = (exprsP l && (z == 15 || z == 16))) := Lib.hid (by
   rw [← hr]
   unfold assignP
   rw [hm, hmn]
   cases l with
   | nil => simp at kl
   | cons y l => simp at hz; subst hz; rfl)
  rw [hm] at cE ⊢
  have HC := Lib.hid cE
  have HD := Lib.hid d0
  have e1 : ((m : Int) == 2) = true := beq_iff_eq.2 (by omega)
  have e2 : (0 : Int) < (m : Int) := by omega
  clear hr h hm cE hl hmn HR hz kl d0
  obtain ⟨b1, hb1⟩ : ∃ b, exprsP l = b := ⟨_, rfl⟩
  rw [hb1] at HC HZ
  clear hb1
  go_enter Tryz.func127, Tryz.ntmps127
  go_wp2_with fail
  refine HC.out.mono ?_
  rintro e w1 ⟨rfl, e1⟩
  have E1 := Lib.hid e1
  have d1 := e1.cell HD.out
  clear e1
  cases b1 with
  | false =>
   have hrr : r = false := HZ.out
   subst hrr
   go_wp2_with fail
   go_ret
   exact ⟨rfl, E1.out⟩
  | true =>
   cases g15 : (z == 15) with
   | true =>
    have hrr : r = true := by rw [HZ.out, g15]; rfl
    subst hrr
    go_wp2_with fail
    go_ret
    exact ⟨rfl, E1.out⟩
   | false =>
    have hrr : r = (z == 16) := by rw [HZ.out, g15]; simp
    subst hrr
    go_wp2_with fail
    go_ret
    exact ⟨rfl, E1.out⟩
 ·have e1 : ((m : Int) == 2) = false := beq_eq_false_iff_ne.2 (by omega)
  have hrr : r = false := by
   rw [← hr]
   unfold assignP
   rw [hm, beq_eq_false_iff_ne.2 hmn, Bool.false_and, Bool.false_and]
  subst hrr
  rw [hm]
  clear hmn HR cE hr h hm hl
  go_enter Tryz.func127, Tryz.ntmps127
  go_wp2_with fail
  go_ret
  exact ⟨rfl, Ext.refl W⟩
theorem blockAt_any (W : World) (ok : Nat → Prop) (d : Nat) (v : Value) (l : List Nd) (h : KidsAt ok W d v l) (hl : l.length ≤ 140737488355328) (n : Nat) (hn : n ≤ 3) : Calls Tryz.prog 129 #[v, .int .i64 (n : Int)] W fun e w' => e = .returned (.bool (blockAtP l n)) ∧ Ext W w' := by
 obtain ⟨q, c, rfl⟩ := h.slice
 obtain ⟨r, hr⟩ : ∃ r, blockAtP l n = r := ⟨_, rfl⟩
 rw [hr]
 obtain ⟨m, hm⟩ : ∃ m, l.length = m := ⟨_, rfl⟩
 have hw : IntKind.i64.wrap ((n : Int) + 1) = (n : Int) + 1 := IntWalk.i64_in _ (by omega)
 by_cases hmn : m = n + 1
 ·have kl : n < l.length := by omega
  have hcap := h.cap (by omega)
  have cE := exprs_any W ok d _ (l.take n) (h.take n (by omega)) (by rw [List.length_take]; omega)
  obtain ⟨b, o, qn, cn, ql, cl, rfl, d0, g1, g2, g3, g4, g5, g6⟩ := h.node kl
  clear g1 g2 g3 g4 g5 g6
  obtain ⟨z, hz⟩ : ∃ z, l[n].k = z := ⟨_, rfl⟩
  rw [hz] at d0
  have HZ : Hid (r = ((z == 0) && exprsP (l.take n))) := Lib.hid (by
   rw [← hr]
   unfold blockAtP
   rw [hm, hmn, List.getElem?_eq_getElem kl]
   simp only [hz]
   simp)
  rw [hm] at hcap ⊢
  have HC := Lib.hid cE
  have e1 : ((m : Int) == (n : Int) + 1) = true := beq_iff_eq.2 (by omega)
  have e2 : (n : Int) < (m : Int) := by omega
  have e3 : (0 : Int) ≤ (n : Int) := by omega
  have e4 : (n : Int) ≤ (c : Int) := by omega
  have e5 : n ≤ c := by omega
  have e6 : n < m := by omega
  clear hr h hm cE hl hmn hz kl hcap
  obtain ⟨b1, hb1⟩ : ∃ b, exprsP (l.take n) = b := ⟨_, rfl⟩
  rw [hb1] at HC HZ
  clear hb1
  cases g0 : (z == 0) with
  | false =>
   have hrr : r = false := by rw [HZ.out, g0]; rfl
   subst hrr
   clear HC
   go_enter Tryz.func129, Tryz.ntmps129
   go_wp2_with fail
   go_ret
   exact ⟨rfl, Ext.refl W⟩
  | true =>
   have hrr : r = b1 := by rw [HZ.out, g0]; rfl
   subst hrr
   go_enter Tryz.func129, Tryz.ntmps129
   go_wp2_with fail
   refine HC.out.mono ?_
   rintro e w1 ⟨rfl, e1⟩
   have E1 := Lib.hid e1
   clear e1
   go_wp2_with fail
   go_ret
   exact ⟨rfl, E1.out⟩
 ·have e1 : ((m : Int) == (n : Int) + 1) = false := beq_eq_false_iff_ne.2 (by omega)
  have hrr : r = false := by
   rw [← hr]
   unfold blockAtP
   rw [hm, beq_eq_false_iff_ne.2 hmn, Bool.false_and, Bool.false_and]
  subst hrr
  rw [hm]
  clear hmn hr h hm hl
  go_enter Tryz.func129, Tryz.ntmps129
  go_wp2_with fail
  go_ret
  exact ⟨rfl, Ext.refl W⟩
theorem kf_do (w : List (Nat × Int)) : KidsF w 128 #[] (fun l => blockAtP l 0) := fun W ok d v l he h hl => by
 try dsimp only
 have HC := Lib.hid (blockAt_any W ok d v l h hl 0 (by omega))
 obtain ⟨q, c, rfl⟩ := h.slice
 generalize l.length = m at *
 generalize blockAtP l 0 = b at *
 clear h
 go_enter Tryz.func128, Tryz.ntmps128
 go_wp2_with fail
 refine HC.out.mono ?_
 rintro e w1 ⟨rfl, e1⟩
 have E1 := Lib.hid e1
 clear e1
 go_wp2_with fail
 go_ret
 exact ⟨rfl, E1.out⟩
theorem kf_while (w : List (Nat × Int)) : KidsF w 131 #[] (fun l => blockAtP l 1) := fun W ok d v l he h hl => by
 try dsimp only
 have HC := Lib.hid (blockAt_any W ok d v l h hl 1 (by omega))
 obtain ⟨q, c, rfl⟩ := h.slice
 generalize l.length = m at *
 generalize blockAtP l 1 = b at *
 clear h
 go_enter Tryz.func131, Tryz.ntmps131
 go_wp2_with fail
 refine HC.out.mono ?_
 rintro e w1 ⟨rfl, e1⟩
 have E1 := Lib.hid e1
 clear e1
 go_wp2_with fail
 go_ret
 exact ⟨rfl, E1.out⟩
theorem kf_func (w : List (Nat × Int)) : KidsF w 134 #[] (fun l => blockAtP l 0) := fun W ok d v l he h hl => by
 try dsimp only
 have HC := Lib.hid (blockAt_any W ok d v l h hl 0 (by omega))
 obtain ⟨q, c, rfl⟩ := h.slice
 generalize l.length = m at *
 generalize blockAtP l 0 = b at *
 clear h
 go_enter Tryz.func134, Tryz.ntmps134
 go_wp2_with fail
 refine HC.out.mono ?_
 rintro e w1 ⟨rfl, e1⟩
 have E1 := Lib.hid e1
 clear e1
 go_wp2_with fail
 go_ret
 exact ⟨rfl, E1.out⟩
theorem kf_for (w : List (Nat × Int)) : KidsF w 132 #[] (fun l => blockAtP l 2 || blockAtP l 3) := fun W ok d v l he h hl => by
 try dsimp only
 have HC := Lib.hid (blockAt_any W ok d v l h hl 2 (by omega))
 have HC3 := Lib.hid (fun W' (e : Ext W W') => blockAt_any W' ok d v l (h.ext e) hl 3 (by omega))
 obtain ⟨q, c, rfl⟩ := h.slice
 generalize l.length = m at *
 generalize blockAtP l 2 = b at *
 generalize blockAtP l 3 = b3 at *
 clear h
 go_enter Tryz.func132, Tryz.ntmps132
 go_wp2_with fail
 refine HC.out.mono ?_
 rintro e w1 ⟨rfl, e1⟩
 have E1 := Lib.hid e1
 clear e1
 cases b with
 | true =>
  go_wp2_with fail
  go_ret
  exact ⟨rfl, E1.out⟩
 | false =>
  go_wp2_with fail
  refine (HC3.out _ E1.out).mono ?_
  rintro e w2 ⟨rfl, e2⟩
  have E2 := Lib.hid (E1.out.trans e2)
  clear e2
  go_wp2_with fail
  go_ret
  exact ⟨by simp, E2.out⟩
theorem kf_return (w : List (Nat × Int)) : KidsF w 133 #[] (fun l => decide (l.length ≤ 1) && exprsP l) := fun W ok d v l he h hl => by
 try dsimp only
 have HC := Lib.hid (exprs_any W ok d v l h hl)
 obtain ⟨q, c, rfl⟩ := h.slice
 generalize l.length = m at *
 generalize exprsP l = b at *
 clear h
 by_cases hm : m ≤ 1
 ·have e1 : decide ((m : Int) ≤ 1) = true := decide_eq_true (by omega)
  have e2 : decide (m ≤ 1) = true := decide_eq_true hm
  have HE2 := Lib.hid e2
  clear hm
  go_enter Tryz.func133, Tryz.ntmps133
  go_wp2_with fail
  refine HC.out.mono ?_
  rintro e w1 ⟨rfl, e1⟩
  have E1 := Lib.hid e1
  clear e1
  go_wp2_with fail
  go_ret
  exact ⟨by first | rfl | simp [HE2.out], E1.out⟩
 ·have e1 : decide ((m : Int) ≤ 1) = false := decide_eq_false (by omega)
  have e2 : decide (m ≤ 1) = false := decide_eq_false hm
  have HE2 := Lib.hid e2
  clear hm HC
  go_enter Tryz.func133, Tryz.ntmps133
  go_wp2_with fail
  go_ret
  exact ⟨by first | rfl | simp [HE2.out], Ext.refl W⟩
theorem table1_kd (w : World) (ok : Nat → Prop) (d : Nat) (v : Value) (x : Nd) (h : NodeAt ok w d v x) : Calls Tryz.prog 136 (#[v] ++ #[]) w fun e w' => e = .returned (.bool (!(x.k == 19 || x.k == 20))) ∧ Ext w w' := by
 obtain ⟨qn, cn, ql, cl, rfl, _, _⟩ := h.parts
 clear h
 generalize x.names.length = nl
 generalize x.kids.length = kl
 have e19 : (x.k != 19) = !(x.k == 19) := rfl
 have e20 : (x.k != 20) = !(x.k == 20) := rfl
 cases h19 : (x.k == 19) <;> cases h20 : (x.k == 20)
 all_goals (
  rw [h19] at e19
  rw [h20] at e20
  go_enter Tryz.func136, Tryz.ntmps136
  go_wp2_with fail
  go_ret
  exact ⟨rfl, (Ext.refl w).alloc _⟩)
theorem kf_table (w : List (Nat × Int)) : KidsF w 135 #[] tableP := fun W ok d v l he h hl => by
 try dsimp only
 have hc := contains_nd (f := 136) (lb := #[]) (p := fun x => !(x.k == 19 || x.k == 20)) W ok d v l h (by omega) (fun _ _ => rfl) (fun x _ W v' _ hn => table1_kd W ok _ v' x hn)
 have he : tableP l = !(l.any fun x => !(x.k == 19 || x.k == 20)) := by
  unfold tableP
  clear hc h hl
  induction l with
  | nil => rfl
  | cons y l ih => rw [List.all_cons, List.any_cons, Bool.not_or, Bool.not_not, ih]
 have HC := Lib.hid hc
 obtain ⟨q, c, rfl⟩ := h.slice
 rw [he]
 clear hc he h hl
 generalize l.length = m at *
 generalize (l.any fun x => !(x.k == 19 || x.k == 20)) = b at *
 go_enter Tryz.func135, Tryz.ntmps135
 go_wp2_with fail
 refine HC.out.mono ?_
 rintro e w1 ⟨rfl, e1⟩
 have E1 := Lib.hid e1
 clear e1
 go_wp2_with fail
 go_ret
 exact ⟨rfl, E1.out⟩
/-! ### branches -/
theorem kf_if (w : List (Nat × Int)) : KidsF w 130 #[] branchesP := fun W ok d v l he h hl => by
 try dsimp only
 obtain ⟨q, c, rfl⟩ := h.slice
 have HK := Lib.hid h
 obtain ⟨n, hn⟩ : ∃ n, l.length = n := ⟨_, rfl⟩
 have HN := Lib.hid hn
 rw [hn] at hl ⊢
 obtain ⟨r, hr⟩ : ∃ r, branchesP l = r := ⟨_, rfl⟩
 rw [hr]
 have HR := Lib.hid (show (decide (2 ≤ l.length) && branchFrom l.length 0 l) = r from hr)
 clear h hn hr
 by_cases h2 : n < 2
 ·have d1 : decide ((n : Int) < 2) = true := decide_eq_true (by omega)
  have d2 : decide (n < 2) = true := decide_eq_true h2
  have hrr : r = false := by rw [← HR.out, HN.out, decide_eq_false (by omega)]; rfl
  subst hrr
  clear h2
  go_enter Tryz.func130, Tryz.ntmps130
  go_wp2_with fail
  go_ret
  exact ⟨rfl, Ext.refl W⟩
 ·have d1 : decide ((n : Int) < 2) = false := decide_eq_false (by omega)
  have d2 : decide (n < 2) = false := decide_eq_false h2
  have HR2 : Hid (branchFrom n 0 l = r) := Lib.hid (by rw [← HR.out, HN.out, decide_eq_true (by omega)]; rfl)
  have hw1 : IntKind.i64.wrap ((n : Int) - 1) = (n : Int) - 1 := IntWalk.i64_in _ (by omega)
  have HNB : Hid (2 ≤ n) := Lib.hid (by omega)
  clear h2 HR
  go_enter Tryz.func130, Tryz.ntmps130
  go_wp2_with fail
  go_loopw [11] (fun v wr => ∃ j : Nat, v = .int .i64 j ∧ j ≤ n ∧ Hid (Ext W wr) ∧ Hid (branchFrom n j (l.drop j) = r)) (fun v _ => n - (intOf v).toNat)
  case atStart => exact ⟨0, rfl, Nat.zero_le _, Lib.hid (Ext.refl W), HR2⟩
  case round =>
   obtain ⟨j, rfl, hj, HE, HA⟩ := hrel
   by_cases hlt : j < n
   ·have kl : j < l.length := by rw [HN.out]; exact hlt
    obtain ⟨b, o, qn, cn, ql, cl, rfl, c0, c1, c2, c3, c4, c5, hnd⟩ := ((by have := HK.out; exact this : KidsAt ok W d (.slice q l.length c) l).ext HE.out).node kl
    have hA := HA.out
    rw [branchFrom_drop n l j kl] at hA
    obtain ⟨x, hx⟩ : ∃ x, l[j] = x := ⟨_, rfl⟩
    rw [hx] at c0 c1 c2 c3 c4 c5 hA
    generalize x.names.length = xn at *
    generalize x.kids.length = xk at *
    have HA2 := Lib.hid hA
    have i0 : (0 : Int) ≤ (j : Int) := by omega
    have i1 : (j : Int) < (n : Int) := by omega
    have i2 : decide ((j : Int) < (n : Int)) = true := decide_eq_true i1
    have e0 : (x.k != 0) = !(x.k == 0) := rfl
    clear hnd hx kl hA
    have HX := Lib.hid (HE.out.alloc (ndO x (.slice qn xn cn) (.slice ql xk cl)))
    obtain ⟨cd, hcd⟩ : ∃ b, condP j n = b := ⟨_, rfl⟩
    have HCD := Lib.hid hcd
    rw [hcd] at HA2
    have hbr : (j % 2 = 0 ∧ ((j : Int) < (n : Int) - 1 ∨ ¬ (j : Int) < (n : Int) - 1 ∧ n % 2 = 0) ∧ cd = true) ∨ (j % 2 = 0 ∧ ¬ (j : Int) < (n : Int) - 1 ∧ n % 2 = 1 ∧ cd = false) ∨ (j % 2 = 1 ∧ cd = false) := by
     rw [← hcd]
     unfold condP
     have := HNB.out
     rcases (by omega : j % 2 = 0 ∨ j % 2 = 1) with g | g
     ·rw [g]
      by_cases g2 : j + 1 < n
      ·exact .inl ⟨rfl, .inl (by omega), by rw [decide_eq_true g2]; rfl⟩
      ·rcases (by omega : n % 2 = 0 ∨ n % 2 = 1) with g3 | g3
       ·exact .inl ⟨rfl, .inr ⟨by omega, g3⟩, by rw [g3]; simp⟩
       ·exact .inr (.inl ⟨rfl, by omega, g3, by rw [g3, decide_eq_false g2]; rfl⟩)
     ·rw [g]; exact .inr (.inr ⟨rfl, rfl⟩)
    have HBR := Lib.hid hbr
    have fin : ∀ (b1 : Bool), exprK x.k = b1 → ((cd == b1 && (cd || x.k == 0)) && branchFrom n (j + 1) (l.drop (j + 1))) = r := fun b1 hb1 => by rw [← hb1]; exact HA2.out
    have FIN := Lib.hid fin
    clear hcd hbr fin
    obtain ⟨b1, hb1⟩ : ∃ b, exprK x.k = b := ⟨_, rfl⟩
    have HB1 := Lib.hid hb1
    have cE := fun W => expression_any W x.k
    rw [hb1] at cE
    have CE := Lib.hid cE
    clear hb1 cE
    rcases HBR.out with ⟨g, g2, rfl⟩ | ⟨g, g2, g3, rfl⟩ | ⟨g, rfl⟩
    ·have t2 : Int.tmod (j : Int) 2 = 0 := by rw [Int.tmod_eq_emod_of_nonneg (by omega)]; omega
     have t4 : ∀ (P : Prop), (((j : Int) < (n : Int) - 1 → P) ∧ (¬ (j : Int) < (n : Int) - 1 → n % 2 = 0 → P)) → P := fun P h => by
      rcases g2 with g2 | ⟨g2, g3⟩
      ·exact h.1 g2
      ·exact h.2 g2 g3
     clear g g2 HBR
     refine t4 _ ⟨fun g2 => ?_, fun g2 g3 => ?_⟩
     ·have i3 : decide ((j : Int) < (n : Int) - 1) = true := decide_eq_true g2
      clear t4
      go_wp2_with fail
      refine (CE.out _).mono ?_
      rintro e w9 ⟨rfl, rfl⟩
      cases b1 with
      | true =>
       have HN2 : Hid (branchFrom n (j + 1) (l.drop (j + 1)) = r) := Lib.hid (FIN.out true HB1.out)
       go_wp2_with fail
       go_roundw
       case rel => exact ⟨j + 1, by go_num, by omega, HX, HN2⟩
       case measure => simp [intOf]; omega
      | false =>
       have hrr : r = false := (FIN.out false HB1.out).symm
       subst hrr
       go_wp2_with fail
       go_ret
       exact ⟨rfl, HX.out⟩
     ·have i3 : decide ((j : Int) < (n : Int) - 1) = false := decide_eq_false g2
      have t5 : Int.tmod (n : Int) 2 = 0 := by rw [Int.tmod_eq_emod_of_nonneg (by omega)]; omega
      clear t4 g3
      go_wp2_with fail
      refine (CE.out _).mono ?_
      rintro e w9 ⟨rfl, rfl⟩
      cases b1 with
      | true =>
       have HN2 : Hid (branchFrom n (j + 1) (l.drop (j + 1)) = r) := Lib.hid (FIN.out true HB1.out)
       go_wp2_with fail
       go_roundw
       case rel => exact ⟨j + 1, by go_num, by omega, HX, HN2⟩
       case measure => simp [intOf]; omega
      | false =>
       have hrr : r = false := (FIN.out false HB1.out).symm
       subst hrr
       go_wp2_with fail
       go_ret
       exact ⟨rfl, HX.out⟩
    ·have t2 : Int.tmod (j : Int) 2 = 0 := by rw [Int.tmod_eq_emod_of_nonneg (by omega)]; omega
     have i3 : decide ((j : Int) < (n : Int) - 1) = false := decide_eq_false g2
     have t5 : Int.tmod (n : Int) 2 = 1 := by rw [Int.tmod_eq_emod_of_nonneg (by omega)]; omega
     clear g g3 HBR
     go_wp2_with fail
     refine (CE.out _).mono ?_
     rintro e w9 ⟨rfl, rfl⟩
     cases b1 with
     | true =>
      have hrr : r = false := (FIN.out true HB1.out).symm
      subst hrr
      go_wp2_with fail
      go_ret
      exact ⟨rfl, HX.out⟩
     | false =>
      cases g0 : (x.k == 0) with
      | true =>
       rw [g0] at e0
       have HN2 : Hid (branchFrom n (j + 1) (l.drop (j + 1)) = r) := Lib.hid (by have := FIN.out false HB1.out; rw [g0] at this; exact this)
       go_wp2_with fail
       go_roundw
       case rel => exact ⟨j + 1, by go_num, by omega, HX, HN2⟩
       case measure => simp [intOf]; omega
      | false =>
       rw [g0] at e0
       have hrr : r = false := by have := FIN.out false HB1.out; rw [g0] at this; exact this.symm
       subst hrr
       go_wp2_with fail
       go_ret
       exact ⟨rfl, HX.out⟩
    ·have t2 : Int.tmod (j : Int) 2 = 1 := by rw [Int.tmod_eq_emod_of_nonneg (by omega)]; omega
     clear g HBR
     go_wp2_with fail
     refine (CE.out _).mono ?_
     rintro e w9 ⟨rfl, rfl⟩
     cases b1 with
     | true =>
      have hrr : r = false := (FIN.out true HB1.out).symm
      subst hrr
      go_wp2_with fail
      go_ret
      exact ⟨rfl, HX.out⟩
     | false =>
      cases g0 : (x.k == 0) with
      | true =>
       rw [g0] at e0
       have HN2 : Hid (branchFrom n (j + 1) (l.drop (j + 1)) = r) := Lib.hid (by have := FIN.out false HB1.out; rw [g0] at this; exact this)
       go_wp2_with fail
       go_roundw
       case rel => exact ⟨j + 1, by go_num, by omega, HX, HN2⟩
       case measure => simp [intOf]; omega
      | false =>
       rw [g0] at e0
       have hrr : r = false := by have := FIN.out false HB1.out; rw [g0] at this; exact this.symm
       subst hrr
       go_wp2_with fail
       go_ret
       exact ⟨rfl, HX.out⟩
   ·obtain rfl : n = j := by omega
    have i2 : decide ((n : Int) < (n : Int)) = false := decide_eq_false (by omega)
    have hrr : r = true := by
     rw [← HA.out, List.drop_eq_nil_of_le (by rw [HN.out]; exact Nat.le_refl _)]; rfl
    subst hrr
    go_wp2_with fail
    go_ret
    exact ⟨rfl, HE.out⟩
end Go.Proofs.YtkbcnacjaakleaaGreatDoor
