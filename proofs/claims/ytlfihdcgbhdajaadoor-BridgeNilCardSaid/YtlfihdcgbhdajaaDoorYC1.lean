/- Are two replies the same? The document's Same. How great a reply is. -/
import Derived.Test.YtlfihdcgbhdajaaDoorYA3
import Derived.OwnWalk
import Derived.Test.YtlfihdcgbhdajaaDoorYA7
import Derived.Deep.LoopGhost
import Derived.Laws.Bits64b
import Derived.Deep.AppendLies
import Derived.Test.YtlfihdcgbhdajaaDoorYA1
namespace Go.Proofs.YtlfihdcgbhdajaaDoor
open Go.RowKit
set_option linter.unusedVariables false
set_option linter.unusedSimpArgs false

mutual
def sameR : Rep → Rep → Bool
 | .mk k n s l, .mk k' n' s' l' => decide (k = k') && decide (n = n') && decide (s = s') && sameL l l'
def sameL : List Rep → List Rep → Bool
 | [], [] => true
 | x :: l, y :: m => sameR x y && sameL l m
 | _, _ => false
end
mutual
theorem sameR_iff : ∀ (x y : Rep), sameR x y = true ↔ x = y
 | .mk k n s l, .mk k' n' s' l' => by
  simp only [sameR, Bool.and_eq_true, decide_eq_true_eq, sameL_iff l l', Rep.mk.injEq, and_assoc]
theorem sameL_iff : ∀ (l m : List Rep), sameL l m = true ↔ l = m
 | [], [] => by simp [sameL]
 | x :: l, y :: m => by simp only [sameL, Bool.and_eq_true, sameR_iff x y, sameL_iff l m, List.cons.injEq]
 | [], y :: m => by simp [sameL]
 | x :: l, [] => by simp [sameL]
end
theorem sameR_self (x : Rep) : sameR x x = true := (sameR_iff x x).2 rfl
theorem sameL_no {l m : List Rep} (h : ¬ l = m) : sameL l m = false := by
 cases hb : sameL l m with
 | false => rfl
 | true => exact absurd ((sameL_iff l m).1 hb) h
theorem it_at : ∀ (l : List Rep) (k : Nat) (h : k < l.length), itR l[k] ≤ itL l
 | x :: l, 0, h => by simp only [List.getElem_cons_zero, itL]; omega
 | x :: l, k + 1, h => by simp only [List.getElem_cons_succ, itL]; have := it_at l k (by simpa using h); omega
def CellsR (w : World) (b o : Nat) (r : Rep) (lv : Value) : Prop :=
 w.cell? ⟨b, o, none⟩ = some (.int .i64 r.k) ∧ w.cell? ⟨b, o + 1, none⟩ = some (.int .i64 r.n) ∧ w.cell? ⟨b, o + 2, none⟩ = some (.string r.s) ∧ w.cell? ⟨b, o + 3, none⟩ = some lv
theorem CellsR.ext {w w' : World} {b o : Nat} {r : Rep} {lv : Value} (h : CellsR w b o r lv) (he : Ext w w') : CellsR w' b o r lv := ⟨he.cell h.1, he.cell h.2.1, he.cell h.2.2.1, he.cell h.2.2.2⟩
abbrev cellsV (k n : Int) (s : ByteArray) (lv : Value) : Value := .agg #[.int .i64 k, .int .i64 n, .string s, lv]
set_option maxRecDepth 100000 in
set_option maxHeartbeats 2000000 in
theorem rsame_differ (w : World) (k n k' n' : Int) (s s' : ByteArray) (q q' : Option Addr) (c c' m m' : Nat) (h : ¬ (k = k' ∧ n = n' ∧ s = s' ∧ m = m')) :
  Calls Tryd.prog 9 #[cellsV k n s (.slice q m c), cellsV k' n' s' (.slice q' m' c')] w fun e w' => e = .returned (.bool false) ∧ Ext w w' := by
 have HE := Lib.hid (((Ext.refl w).alloc (.cells #[.int .i64 k, .int .i64 n, .string s, .slice q m c] 28)).alloc (.cells #[.int .i64 k', .int .i64 n', .string s', .slice q' m' c'] 28))
 by_cases h1 : k = k'
 ·subst h1
  by_cases h2 : n = n'
  ·subst h2
   by_cases h3 : s = s'
   ·subst h3
    have h4 : ¬ m = m' := fun e => h ⟨rfl, rfl, rfl, e⟩
    have e1 : ((m : Int) != (m' : Int)) = true := bne_iff_ne.2 (by omega)
    have e2 : ((m : Int) == (m' : Int)) = false := beq_eq_false_iff_ne.2 (by omega)
    clear h h4
    go_enter Tryd.func9, Tryd.ntmps9
    go_wp2_with fail
    go_ret
    exact ⟨rfl, HE.out⟩
   ·have e1 := str_ne h3
    clear h h3
    go_enter Tryd.func9, Tryd.ntmps9
    go_wp2_with fail
    go_ret
    exact ⟨rfl, HE.out⟩
  ·have e1 : (n != n') = true := bne_iff_ne.2 h2
   have e2 : (n == n') = false := beq_eq_false_iff_ne.2 h2
   clear h h2
   go_enter Tryd.func9, Tryd.ntmps9
   go_wp2_with fail
   go_ret
   exact ⟨rfl, HE.out⟩
 ·have e1 : (k != k') = true := bne_iff_ne.2 h1
  have e2 : (k == k') = false := beq_eq_false_iff_ne.2 h1
  clear h h1
  go_enter Tryd.func9, Tryd.ntmps9
  go_wp2_with fail
  go_ret
  exact ⟨rfl, HE.out⟩
def SubSame (f : FuncId) (w : World) (q q' : Option Addr) (l m : List Rep) : Prop :=
 ∀ k (h1 : k < l.length) (h2 : k < m.length), ∃ b o b' o' lv lv', q = some ⟨b, o, none⟩ ∧ q' = some ⟨b', o', none⟩ ∧ CellsR w b (o + k * 4) l[k] lv ∧ CellsR w b' (o' + k * 4) m[k] lv' ∧
  ∀ W, Ext w W → Calls Tryd.prog f #[cellsV l[k].k l[k].n l[k].s lv, cellsV m[k].k m[k].n m[k].s lv'] W fun e w' => e = .returned (.bool (sameR l[k] m[k])) ∧ Ext W w'
set_option maxRecDepth 100000 in
set_option maxHeartbeats 4000000 in
theorem rsame_loop (w : World) (k n : Int) (s : ByteArray) (q q' : Option Addr) (c c' : Nat) (l m : List Rep) (hl : l.length = m.length) (hmax : l.length ≤ 1000000000) (hsub : SubSame 9 w q q' l m) :
    Calls Tryd.prog 9 #[cellsV k n s (.slice q l.length c), cellsV k n s (.slice q' l.length c')] w fun e w' => e = .returned (.bool (sameL l m)) ∧ Ext w w' := by
  have HE := Lib.hid (((Ext.refl w).alloc (.cells #[.int .i64 k, .int .i64 n, .string s, .slice q l.length c] 28)).alloc (.cells #[.int .i64 k, .int .i64 n, .string s, .slice q' l.length c'] 28))
  have HX : Hid (Blk ((w.alloc (.cells #[.int .i64 k, .int .i64 n, .string s, .slice q l.length c] 28)).alloc (.cells #[.int .i64 k, .int .i64 n, .string s, .slice q' l.length c'] 28)) w.heap.size 28 #[.int .i64 k, .int .i64 n, .string s, .slice q l.length c]) := Lib.hid ((Blk.new w _ _).alloc _)
  have HY : Hid (Blk ((w.alloc (.cells #[.int .i64 k, .int .i64 n, .string s, .slice q l.length c] 28)).alloc (.cells #[.int .i64 k, .int .i64 n, .string s, .slice q' l.length c'] 28)) (w.heap.size + 1) 28 #[.int .i64 k, .int .i64 n, .string s, .slice q' l.length c']) := Lib.hid (by
    have := Blk.new (w.alloc (.cells #[.int .i64 k, .int .i64 n, .string s, .slice q l.length c] 28)) 28 #[.int .i64 k, .int .i64 n, .string s, .slice q' l.length c']
    rwa [size_alloc] at this)
  have HL := Lib.hid hl
  have HS := Lib.hid hsub
  clear hsub hl
  go_enter Tryd.func9, Tryd.ntmps9
  go_wp2_with fail
  generalize (w.alloc (.cells #[.int .i64 k, .int .i64 n, .string s, .slice q l.length c] 28)).alloc (.cells #[.int .i64 k, .int .i64 n, .string s, .slice q' l.length c'] 28) = w0 at HE HX HY ⊢
  go_loopw [5] (fun v5 wr => ∃ j : Nat, v5 = .int .i64 j ∧ j ≤ l.length ∧ Hid (Ext w0 wr) ∧ Hid (∀ i (h1 : i < l.length) (h2 : i < m.length), i < j → l[i] = m[i])) (fun v5 _ => l.length - (intOf v5).toNat)
  case atStart => exact ⟨0, rfl, Nat.zero_le _, Lib.hid (Ext.refl w0), Lib.hid (fun j _ _ h => absurd h (by omega))⟩
  case round =>
    obtain ⟨j, rfl, hj, HR, HA⟩ := hrel
    have x3 := (HX.out.ext HR.out).cell 3
    have y3 := (HY.out.ext HR.out).cell 3
    simp only [List.getElem?_toArray, List.getElem?_cons_zero, List.getElem?_cons_succ] at x3 y3
    by_cases hlt : j < l.length
    · have hlt2 : j < m.length := by have := HL.out; omega
      obtain ⟨b, o, b', o', lv, lv', hq, hq', hc, hc', hs⟩ := HS.out j hlt hlt2
      have HC := Lib.hid (hc.ext (HE.out.trans HR.out))
      have HC' := Lib.hid (hc'.ext (HE.out.trans HR.out))
      have HNO : Hid (sameR l[j] m[j] = false → sameL l m = false) := Lib.hid (fun h => sameL_no (fun e => by
        subst e
        rw [sameR_self] at h
        cases h))
      have HYE : Hid (sameR l[j] m[j] = true → ∀ i (h1 : i < l.length) (h2 : i < m.length), i < j + 1 → l[i] = m[i]) := Lib.hid (fun h i h1 h2 hi => by
        rcases Nat.lt_or_ge i j with h' | h'
        · exact HA.out i h1 h2 h'
        · obtain rfl : i = j := by omega
          exact (sameR_iff _ _).1 h)
      have HCALL := Lib.hid (fun W (hW : Ext wr W) => hs W ((HE.out.trans HR.out).trans hW))
      subst hq hq'
      generalize l[j] = x at HC HNO HYE HCALL
      generalize m[j] = y at HC' HNO HYE HCALL
      have k0 : (0 : Int) ≤ (j : Int) := by omega
      have k1 : (j : Int) < (l.length : Int) := by omega
      clear hc hc' hs HX HY HS
      cases hb : sameR x y with
      | true =>
        rw [hb] at HCALL
        have HA2 := Lib.hid (HYE.out hb)
        clear HYE HNO hb
        go_wp2_with fail
        refine wp_region_ext (by kernel_rfl) (by kernel_rfl) ?_
        repeat (
          first
            | go_big_quiet_skip
            | (go_big_quiet_want
               go_big_quiet_op
               first
                 | go_big_quiet_on
                 | (apply Exists.intro
                    refine ⟨fun wq hq => ?_, ?_⟩
                    focus (
                      have x3 := hq.cell x3
                      have y3 := hq.cell y3
                      obtain ⟨p0, p1, p2, p3⟩ := HC.out.ext hq
                      obtain ⟨r0, r1, r2, r3⟩ := HC'.out.ext hq
                      first
                        | (go_at_call 9; exact Calls.ext_of hq (HCALL.out wq hq); done)
                        | (go_simp; exact rfl))
                    go_big_quiet_on)))
        refine wpQuiet_nil ?_
        intro we hwe
        have HR2 := Lib.hid (HR.out.trans hwe)
        clear hwe x3 y3
        go_wp2_with fail
        go_roundw
        case rel => exact ⟨j + 1, by go_num, by omega, HR2, HA2⟩
        case measure => simp [intOf]; omega
      | false =>
        rw [hb] at HCALL
        have HN := Lib.hid (HNO.out hb)
        clear HYE HNO hb
        go_wp2_with fail
        refine wp_region_ext (by kernel_rfl) (by kernel_rfl) ?_
        repeat (
          first
            | go_big_quiet_skip
            | (go_big_quiet_want
               go_big_quiet_op
               first
                 | go_big_quiet_on
                 | (apply Exists.intro
                    refine ⟨fun wq hq => ?_, ?_⟩
                    focus (
                      have x3 := hq.cell x3
                      have y3 := hq.cell y3
                      obtain ⟨p0, p1, p2, p3⟩ := HC.out.ext hq
                      obtain ⟨r0, r1, r2, r3⟩ := HC'.out.ext hq
                      first
                        | (go_at_call 9; exact Calls.ext_of hq (HCALL.out wq hq); done)
                        | (go_simp; exact rfl))
                    go_big_quiet_on)))
        refine wpQuiet_nil ?_
        intro we hwe
        have HR2 := Lib.hid (HR.out.trans hwe)
        clear hwe x3 y3
        go_wp2_with fail
        go_ret
        rw [HN.out]
        exact ⟨rfl, HE.out.trans HR2.out⟩
    · obtain rfl : j = l.length := by omega
      have HT : Hid (sameL l m = true) := Lib.hid ((sameL_iff l m).2 (List.ext_getElem HL.out (fun i h1 h2 => HA.out i h1 h2 h1)))
      go_wp2_with fail
      go_ret
      rw [HT.out]
      exact ⟨rfl, HE.out.trans HR.out⟩
theorem list_at {ok : Nat → Prop} {w : World} {d : Nat} {v : Value} {l : List Rep} (h : ListAt ok w (d + 1) v l) : ∃ q c, v = .slice q l.length c ∧ ∀ k (hk : k < l.length), ∃ b o lv, q = some ⟨b, o, none⟩ ∧ CellsR w b (o + k * 4) l[k] lv ∧ ListAt ok w d lv l[k].l := by
 obtain ⟨q, c, rfl, hx⟩ := h
 refine ⟨q, c, rfl, fun k hk => ?_⟩
 obtain ⟨b, o, rfl, _, hy⟩ := hx (by omega)
 obtain ⟨h0, h1, h2, lv, h3, h4⟩ := hy k hk
 exact ⟨b, o, lv, rfl, ⟨h0, h1, h2, h3⟩, h4⟩
theorem same_split (x y : Rep) (h : x.k = y.k ∧ x.n = y.n ∧ x.s = y.s ∧ x.l.length = y.l.length) : sameR x y = sameL x.l y.l := by
 obtain ⟨h1, h2, h3, _⟩ := h
 cases x; cases y
 simp only [Rep.k, Rep.n, Rep.s] at h1 h2 h3
 subst h1 h2 h3
 simp [sameR, Rep.l]
theorem same_no (x y : Rep) (h : ¬ (x.k = y.k ∧ x.n = y.n ∧ x.s = y.s ∧ x.l.length = y.l.length)) : sameR x y = false := by
 cases hb : sameR x y with
 | false => rfl
 | true =>
  obtain rfl := (sameR_iff x y).1 hb
  exact absurd ⟨rfl, rfl, rfl, rfl⟩ h
theorem rsame_any : ∀ (D D' : Nat) (ok ok' : Nat → Prop) (w : World) (x y : Rep) (lx ly : Value), ListAt ok w D lx x.l → ListAt ok' w D' ly y.l → itR x ≤ 1000000000 →
  Calls Tryd.prog 9 #[cellsV x.k x.n x.s lx, cellsV y.k y.n y.s ly] w fun e w' => e = .returned (.bool (sameR x y)) ∧ Ext w w' := by
 intro D
 induction D with
 | zero =>
  intro D' ok ok' w x y lx ly hx hy hm
  obtain ⟨q, c, rfl⟩ := hx.slice
  obtain ⟨q', c', rfl⟩ := hy.slice
  by_cases h : x.k = y.k ∧ x.n = y.n ∧ x.s = y.s ∧ x.l.length = y.l.length
  ·rw [same_split x y h]
   obtain ⟨h1, h2, h3, h4⟩ := h
   rw [← h1, ← h2, ← h3, ← h4]
   have h0 : x.l = [] := hx.1
   exact rsame_loop w x.k x.n x.s q q' c c' x.l y.l h4 (by rw [h0]; simp) (fun k hk => by rw [h0] at hk; simp at hk)
  ·rw [same_no x y h]
   exact rsame_differ w _ _ _ _ _ _ q q' c c' _ _ h
 | succ D ih =>
  intro D' ok ok' w x y lx ly hx hy hm
  obtain ⟨q, c, rfl, hx'⟩ := list_at hx
  obtain ⟨q', c', hlv⟩ := hy.slice
  subst hlv
  by_cases h : x.k = y.k ∧ x.n = y.n ∧ x.s = y.s ∧ x.l.length = y.l.length
  ·rw [same_split x y h]
   obtain ⟨h1, h2, h3, h4⟩ := h
   rw [← h1, ← h2, ← h3, ← h4]
   have hit : itR x = x.l.length + itL x.l := by cases x; simp only [itR, Rep.l]
   refine rsame_loop w x.k x.n x.s q q' c c' x.l y.l h4 (by omega) (fun k hk hk2 => ?_)
   obtain ⟨b, o, lv, e1, e2, e3⟩ := hx' k hk
   cases D' with
   | zero =>
    have h0 : y.l = [] := hy.1
    rw [h0] at hk2; simp at hk2
   | succ D' =>
    obtain ⟨q2, c2, e4, hy'⟩ := list_at hy
    injection e4 with e5 e6 e7
    subst e5
    obtain ⟨b', o', lv', f1, f2, f3⟩ := hy' k hk2
    exact ⟨b, o, b', o', lv, lv', e1, f1, e2, f2, fun W hW => ih D' ok ok' W _ _ lv lv' (e3.ext hW) (f3.ext hW) (by have := it_at x.l k hk; omega)⟩
  ·rw [same_no x y h]
   exact rsame_differ w _ _ _ _ _ _ q q' c c' _ _ h
end Go.Proofs.YtlfihdcgbhdajaaDoor
namespace Go.Proofs.YtlfihdcgbhdajaaDoor
open Go.RowKit
set_option linter.unusedVariables false
set_option linter.unusedSimpArgs false

mutual
def szR : Rep → Nat → Nat
 | .mk _ _ s l, n => szL l (n + 5 + min s.size 3000)
def szL : List Rep → Nat → Nat
 | [], n => n
 | x :: l, n => if n ≤ 3000 then szL l (szR x n) else n
end
mutual
theorem szR_bd : ∀ (x : Rep) (n : Nat), n ≤ 3000 → n + 5 ≤ szR x n ∧ szR x n ≤ 6005
 | .mk _ _ s l, n, h => by
  have h1 := szL_bd l (n + 5 + min s.size 3000) (by omega)
  simp only [szR]
  omega
theorem szL_bd : ∀ (l : List Rep) (n : Nat), n ≤ 6005 → n ≤ szL l n ∧ szL l n ≤ 6005
 | [], n, h => by simp only [szL]; omega
 | x :: l, n, h => by
  simp only [szL]
  by_cases hn : n ≤ 3000
  ·rw [if_pos hn]
   have h1 := szR_bd x n hn
   have h2 := szL_bd l (szR x n) h1.2
   omega
  ·rw [if_neg hn]; omega
end
theorem szL_past (l : List Rep) (n : Nat) (h : ¬ n ≤ 3000) : szL l n = n := by
 cases l with
 | nil => rfl
 | cons x l => simp only [szL, if_neg h]
theorem szL_step (l : List Rep) (k n : Nat) (hk : k < l.length) (hn : n ≤ 3000) : szL (l.drop k) n = szL (l.drop (k + 1)) (szR l[k] n) := by
 rw [List.drop_eq_getElem_cons hk]
 simp only [szL, if_pos hn]
def SubSize (w : World) (q : Option Addr) (l : List Rep) : Prop :=
 ∀ k (h : k < l.length), ∃ b o q9 n9 c9, q = some ⟨b, o, none⟩ ∧ CellsR w b (o + k * 4) l[k] (.slice q9 n9 c9) ∧
  ∀ W (n : Nat), Ext w W → n ≤ 3000 → Calls Tryd.prog 5 #[cellsV l[k].k l[k].n l[k].s (.slice q9 n9 c9), .int .i64 (n : Int)] W fun e w' => e = .returned (.int .i64 (szR l[k] n : Int)) ∧ Ext W w'
set_option maxRecDepth 100000 in
set_option maxHeartbeats 4000000 in
theorem size_loop (w : World) (k n : Int) (s : ByteArray) (q : Option Addr) (c : Nat) (l : List Rep) (N : Nat) (hN : N ≤ 3000) (hsub : SubSize w q l) :
  Calls Tryd.prog 5 #[cellsV k n s (.slice q l.length c), .int .i64 (N : Int)] w fun e w' => e = .returned (.int .i64 (szL l (N + 5 + min s.size 3000) : Int)) ∧ Ext w w' := by
 have HE := Lib.hid ((Ext.refl w).alloc (.cells #[.int .i64 k, .int .i64 n, .string s, .slice q l.length c] 28))
 have HX := Lib.hid (Blk.new w 28 #[.int .i64 k, .int .i64 n, .string s, .slice q l.length c])
 have HS := Lib.hid hsub
 obtain ⟨S, hS⟩ : ∃ S, s.size = S := ⟨_, rfl⟩
 have hm : min (S : Int) 3000 = ((min S 3000 : Nat) : Int) := by omega
 have hm2 : min S 3000 ≤ 3000 := by omega
 rw [hS]
 obtain ⟨M, hM⟩ : ∃ M, min S 3000 = M := ⟨_, rfl⟩
 rw [hM] at hm hm2 ⊢
 have HMM := Lib.hid hM
 have HSS := Lib.hid hS
 clear hsub hM
 go_enter Tryd.func5, Tryd.ntmps5
 go_wp2_with fail
 clear hm hS
 generalize w.alloc (.cells #[.int .i64 k, .int .i64 n, .string s, .slice q l.length c] 28) = w0 at HE HX ⊢
 go_loopw [1, 5] (fun v1 v5 wr => ∃ j m : Nat, v5 = .int .i64 j ∧ v1 = .int .i64 m ∧ j ≤ l.length ∧ 5 * j ≤ m ∧ m ≤ 6005 ∧ Hid (Ext w0 wr) ∧ Hid (szL (l.drop j) m = szL l (N + 5 + M))) (fun _ v5 _ => l.length - (intOf v5).toNat)
 case atStart => exact ⟨0, N + 5 + M, rfl, by go_num, Nat.zero_le _, by omega, by omega, Lib.hid (Ext.refl w0), Lib.hid rfl⟩
 case round =>
  obtain ⟨j, m, rfl, rfl, hj, hjm, hm6, HR, HA⟩ := hrel
  have x3 := (HX.out.ext HR.out).cell 3
  simp only [List.getElem?_toArray, List.getElem?_cons_zero, List.getElem?_cons_succ] at x3
  by_cases hlt : j < l.length
  ·by_cases hm3 : m ≤ 3000
   ·obtain ⟨b, o, q9, n9, c9, rfl, hc, hs⟩ := HS.out j hlt
    have hA := HA.out
    rw [szL_step l j m hlt hm3] at hA
    have hbd := szR_bd l[j] m hm3
    obtain ⟨p0, p1, p2, p3⟩ := hc.ext (HE.out.trans HR.out)
    have HC := Lib.hid (hs wr m (HE.out.trans HR.out) hm3)
    generalize l[j] = x at p0 p1 p2 p3 HC hA hbd
    obtain ⟨m', hm'⟩ : ∃ m', szR x m = m' := ⟨_, rfl⟩
    rw [hm'] at hA HC hbd
    have HA2 := Lib.hid hA
    have k0 : (0 : Int) ≤ (j : Int) := by omega
    have k1 : (j : Int) < (l.length : Int) := by omega
    have d1 : decide ((j : Int) < (l.length : Int)) = true := decide_eq_true k1
    have d1n : decide (j < l.length) = true := decide_eq_true hlt
    have d2 : decide ((m : Int) ≤ 3000) = true := decide_eq_true (by omega)
    have d2n : decide (m ≤ 3000) = true := decide_eq_true hm3
    clear hc hs hA hm'
    go_wp2_with fail
    refine HC.out.mono ?_
    rintro e w1 ⟨rfl, e1⟩
    have HR2 := Lib.hid (HR.out.trans e1)
    clear e1 HC p0 p1 p2 p3 x3
    go_wp2_with fail
    go_roundw
    case rel => exact ⟨j + 1, m', by go_num, rfl, by omega, by omega, by omega, HR2, HA2⟩
    case measure => simp [intOf]; omega
   ·have hA := HA.out
    rw [szL_past _ _ hm3] at hA
    have HA2 := Lib.hid hA
    have d1 : decide ((j : Int) < (l.length : Int)) = true := decide_eq_true (by omega)
    have d1n : decide (j < l.length) = true := decide_eq_true hlt
    have d2 : decide ((m : Int) ≤ 3000) = false := decide_eq_false (by omega)
    have d2n : decide (m ≤ 3000) = false := decide_eq_false hm3
    clear hA
    go_wp2_with fail
    go_ret
    rw [← HA2.out]
    exact ⟨rfl, HE.out.trans HR.out⟩
  ·have hA := HA.out
   rw [List.drop_eq_nil_of_le (by omega)] at hA
   simp only [szL] at hA
   have HA2 := Lib.hid hA
   have d1 : decide ((j : Int) < (l.length : Int)) = false := decide_eq_false (by omega)
   have d1n : decide (j < l.length) = false := decide_eq_false hlt
   clear hA
   go_wp2_with fail
   go_ret
   rw [← HA2.out]
   exact ⟨rfl, HE.out.trans HR.out⟩
theorem size_any : ∀ (D : Nat) (ok : Nat → Prop) (w : World) (x : Rep) (lv : Value) (n : Nat), ListAt ok w D lv x.l → n ≤ 3000 →
  Calls Tryd.prog 5 #[cellsV x.k x.n x.s lv, .int .i64 (n : Int)] w fun e w' => e = .returned (.int .i64 (szR x n : Int)) ∧ Ext w w' := by
 intro D
 induction D with
 | zero =>
  intro ok w x lv n hx hn
  obtain ⟨q, c, rfl⟩ := hx.slice
  have h0 : x.l = [] := hx.1
  have e : szR x n = szL x.l (n + 5 + min x.s.size 3000) := by cases x; rfl
  rw [e]
  exact size_loop w x.k x.n x.s q c x.l n hn (fun k hk => by rw [h0] at hk; simp at hk)
 | succ D ih =>
  intro ok w x lv n hx hn
  obtain ⟨q, c, rfl, hx'⟩ := list_at hx
  have e : szR x n = szL x.l (n + 5 + min x.s.size 3000) := by cases x; rfl
  rw [e]
  refine size_loop w x.k x.n x.s q c x.l n hn (fun k hk => ?_)
  obtain ⟨b, o, lv, e1, e2, e3⟩ := hx' k hk
  obtain ⟨q9, c9, rfl⟩ := e3.slice
  exact ⟨b, o, q9, _, c9, e1, e2, fun W m hW hm => ih ok W _ _ m (e3.ext hW) hm⟩
end Go.Proofs.YtlfihdcgbhdajaaDoor
