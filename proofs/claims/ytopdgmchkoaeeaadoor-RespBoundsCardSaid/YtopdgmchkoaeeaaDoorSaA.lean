/- How great a reply is; the module's Same. -/
import Derived.Test.YtopdgmchkoaeeaaDoorReK
namespace Go.Proofs.YtopdgmchkoaeeaaDoor
open Go.RowKit
set_option linter.unusedVariables false
set_option linter.unusedSimpArgs false

mutual
/-- How many parts and bytes a reply has, as far as some. -/
def szR : Rep → Nat → Nat
  | .mk _ _ s l, n => szL l (n + 5 + min s.size 3000)
def szL : List Rep → Nat → Nat
  | [], n => n
  | x :: l, n => if n ≤ 3000 then szL l (szR x n) else n
end
mutual
theorem szR_bd : ∀ (x : Rep) (n : Nat), n ≤ 3000 → n + 5 ≤ szR x n ∧ szR x n ≤ 6005
  | .mk _ _ s l, n, h => by
    have h1 := szL_bd l (n + 5 + min s.size 3000) (by omega)
    simp only [szR]
    omega
theorem szL_bd : ∀ (l : List Rep) (n : Nat), n ≤ 6005 → n ≤ szL l n ∧ szL l n ≤ 6005
  | [], n, h => by simp only [szL]; omega
  | x :: l, n, h => by
    simp only [szL]
    by_cases hn : n ≤ 3000
    · rw [if_pos hn]
      have h1 := szR_bd x n hn
      have h2 := szL_bd l (szR x n) h1.2
      omega
    · rw [if_neg hn]; omega
end
mutual
theorem szR_few : ∀ (x : Rep) (n : Nat), n ≤ 3000 → szR x n ≤ 3000 → n + 5 + 5 * itR x + txR x ≤ szR x n
  | .mk _ _ s l, n, h, hs => by
    simp only [szR] at hs ⊢
    simp only [itR, txR]
    have h0 := szL_bd l (n + 5 + min s.size 3000) (by omega)
    have h1 := szL_few l (n + 5 + min s.size 3000) (by omega) hs
    omega
theorem szL_few : ∀ (l : List Rep) (n : Nat), n ≤ 3000 → szL l n ≤ 3000 → n + 5 * l.length + 5 * itL l + txL l ≤ szL l n
  | [], n, h, hs => by simp only [szL, itL, txL, List.length_nil]; omega
  | x :: l, n, h, hs => by
    simp only [szL] at hs ⊢
    rw [if_pos h] at hs ⊢
    have h1 := szR_bd x n h
    have h2 := szL_bd l (szR x n) h1.2
    have h3 := szR_few x n h (by omega)
    have h4 := szL_few l (szR x n) (by omega) hs
    simp only [itL, txL, List.length_cons]
    omega
end
theorem szL_past (l : List Rep) (n : Nat) (h : ¬ n ≤ 3000) : szL l n = n := by
  cases l with
  | nil => rfl
  | cons x l => simp only [szL, if_neg h]
theorem szL_step (l : List Rep) (k n : Nat) (hk : k < l.length) (hn : n ≤ 3000) : szL (l.drop k) n = szL (l.drop (k + 1)) (szR l[k] n) := by
  rw [List.drop_eq_getElem_cons hk]
  simp only [szL, if_pos hn]
/-- The elements of a list of replies, and what a function of one and a number tells of each. -/
def SubSize (w : World) (q : Option Addr) (l : List Rep) : Prop :=
  ∀ k (h : k < l.length), ∃ b o q9 n9 c9, q = some ⟨b, o, none⟩ ∧ CellsR w b (o + k * 4) l[k] (.slice q9 n9 c9) ∧
    ∀ W (n : Nat), Ext w W → n ≤ 3000 → Calls Tryd.prog 28 #[cellsV l[k].k l[k].n l[k].s (.slice q9 n9 c9), .int .i64 (n : Int)] W fun e w' => e = .returned (.int .i64 (szR l[k] n : Int)) ∧ Ext W w'
set_option maxRecDepth 100000 in
set_option maxHeartbeats 4000000 in
theorem size_loop (w : World) (k n : Int) (s : ByteArray) (q : Option Addr) (c : Nat) (l : List Rep) (N : Nat) (hN : N ≤ 3000) (hsub : SubSize w q l) :
    Calls Tryd.prog 28 #[cellsV k n s (.slice q l.length c), .int .i64 (N : Int)] w fun e w' => e = .returned (.int .i64 (szL l (N + 5 + min s.size 3000) : Int)) ∧ Ext w w' := by
  have HE := Lib.hid ((Ext.refl w).alloc (.cells #[.int .i64 k, .int .i64 n, .string s, .slice q l.length c] 41))
  have HX := Lib.hid (Blk.new w 41 #[.int .i64 k, .int .i64 n, .string s, .slice q l.length c])
  have HS := Lib.hid hsub
  obtain ⟨S, hS⟩ : ∃ S, s.size = S := ⟨_, rfl⟩
  have hm : min (S : Int) 3000 = ((min S 3000 : Nat) : Int) := by omega
  have hm2 : min S 3000 ≤ 3000 := by omega
  rw [hS]
  obtain ⟨M, hM⟩ : ∃ M, min S 3000 = M := ⟨_, rfl⟩
  rw [hM] at hm hm2 ⊢
  have HMM := Lib.hid hM
  have HSS := Lib.hid hS
  clear hsub hM
  go_enter Tryd.func28, Tryd.ntmps28
  go_wp2_with fail
  clear hm hS
  generalize w.alloc (.cells #[.int .i64 k, .int .i64 n, .string s, .slice q l.length c] 41) = w0 at HE HX ⊢
  go_loopw [1, 5] (fun v1 v5 wr => ∃ j m : Nat, v5 = .int .i64 j ∧ v1 = .int .i64 m ∧ j ≤ l.length ∧ 5 * j ≤ m ∧ m ≤ 6005 ∧ Hid (Ext w0 wr) ∧ Hid (szL (l.drop j) m = szL l (N + 5 + M))) (fun _ v5 _ => l.length - (intOf v5).toNat)
  case atStart => exact ⟨0, N + 5 + M, rfl, by go_num, Nat.zero_le _, by omega, by omega, Lib.hid (Ext.refl w0), Lib.hid rfl⟩
  case round =>
    obtain ⟨j, m, rfl, rfl, hj, hjm, hm6, HR, HA⟩ := hrel
    have x3 := (HX.out.ext HR.out).cell 3
    simp only [List.getElem?_toArray, List.getElem?_cons_zero, List.getElem?_cons_succ] at x3
    by_cases hlt : j < l.length
    · by_cases hm3 : m ≤ 3000
      · obtain ⟨b, o, q9, n9, c9, rfl, hc, hs⟩ := HS.out j hlt
        have hA := HA.out
        rw [szL_step l j m hlt hm3] at hA
        have hbd := szR_bd l[j] m hm3
        obtain ⟨p0, p1, p2, p3⟩ := hc.ext (HE.out.trans HR.out)
        have HC := Lib.hid (hs wr m (HE.out.trans HR.out) hm3)
        generalize l[j] = x at p0 p1 p2 p3 HC hA hbd
        obtain ⟨m', hm'⟩ : ∃ m', szR x m = m' := ⟨_, rfl⟩
        rw [hm'] at hA HC hbd
        have HA2 := Lib.hid hA
        have k0 : (0 : Int) ≤ (j : Int) := by omega
        have k1 : (j : Int) < (l.length : Int) := by omega
        have d1 : decide ((j : Int) < (l.length : Int)) = true := decide_eq_true k1
        have d1n : decide (j < l.length) = true := decide_eq_true hlt
        have d2 : decide ((m : Int) ≤ 3000) = true := decide_eq_true (by omega)
        have d2n : decide (m ≤ 3000) = true := decide_eq_true hm3
        clear hc hs hA hm'
        go_wp2_with fail
        refine HC.out.mono ?_
        rintro e w1 ⟨rfl, e1⟩
        have HR2 := Lib.hid (HR.out.trans e1)
        clear e1 HC p0 p1 p2 p3 x3
        go_wp2_with fail
        go_roundw
        case rel => exact ⟨j + 1, m', by go_num, rfl, by omega, by omega, by omega, HR2, HA2⟩
        case measure => simp [intOf]; omega
      · have hA := HA.out
        rw [szL_past _ _ hm3] at hA
        have HA2 := Lib.hid hA
        have d1 : decide ((j : Int) < (l.length : Int)) = true := decide_eq_true (by omega)
        have d1n : decide (j < l.length) = true := decide_eq_true hlt
        have d2 : decide ((m : Int) ≤ 3000) = false := decide_eq_false (by omega)
        have d2n : decide (m ≤ 3000) = false := decide_eq_false hm3
        clear hA
        go_wp2_with fail
        go_ret
        rw [← HA2.out]
        exact ⟨rfl, HE.out.trans HR.out⟩
    · have hA := HA.out
      rw [List.drop_eq_nil_of_le (by omega)] at hA
      simp only [szL] at hA
      have HA2 := Lib.hid hA
      have d1 : decide ((j : Int) < (l.length : Int)) = false := decide_eq_false (by omega)
      have d1n : decide (j < l.length) = false := decide_eq_false hlt
      clear hA
      go_wp2_with fail
      go_ret
      rw [← HA2.out]
      exact ⟨rfl, HE.out.trans HR.out⟩
theorem size_any : ∀ (D : Nat) (ok : Nat → Prop) (w : World) (x : Rep) (lv : Value) (n : Nat), ListAt ok w D lv x.l → n ≤ 3000 →
    Calls Tryd.prog 28 #[cellsV x.k x.n x.s lv, .int .i64 (n : Int)] w fun e w' => e = .returned (.int .i64 (szR x n : Int)) ∧ Ext w w' := by
  intro D
  induction D with
  | zero =>
    intro ok w x lv n hx hn
    obtain ⟨q, c, rfl⟩ := hx.slice
    have h0 : x.l = [] := hx.1
    have e : szR x n = szL x.l (n + 5 + min x.s.size 3000) := by cases x; rfl
    rw [e]
    exact size_loop w x.k x.n x.s q c x.l n hn (fun k hk => by rw [h0] at hk; simp at hk)
  | succ D ih =>
    intro ok w x lv n hx hn
    obtain ⟨q, c, rfl, hx'⟩ := list_at hx
    have e : szR x n = szL x.l (n + 5 + min x.s.size 3000) := by cases x; rfl
    rw [e]
    refine size_loop w x.k x.n x.s q c x.l n hn (fun k hk => ?_)
    obtain ⟨b, o, lv, e1, e2, e3⟩ := hx' k hk
    obtain ⟨q9, c9, rfl⟩ := e3.slice
    exact ⟨b, o, q9, _, c9, e1, e2, fun W m hW hm => ih ok W _ _ m (e3.ext hW) hm⟩

/-! ### Same -/
def SubSame2 (w : World) (q q' : Option Addr) (l m : List Rep) : Prop :=
  ∀ k (h1 : k < l.length) (h2 : k < m.length), ∃ b o b' o' q8 n8 c8 q9 n9 c9, q = some ⟨b, o, none⟩ ∧ q' = some ⟨b', o', none⟩ ∧ CellsR w b (o + k * 4) l[k] (.slice q8 n8 c8) ∧ CellsR w b' (o' + k * 4) m[k] (.slice q9 n9 c9) ∧
    ∀ W, Ext w W → Calls Tryd.prog 33 #[cellsV l[k].k l[k].n l[k].s (.slice q8 n8 c8), cellsV m[k].k m[k].n m[k].s (.slice q9 n9 c9)] W fun e w' => e = .returned (.bool (sameR l[k] m[k])) ∧ Ext W w'
set_option maxRecDepth 100000 in
set_option maxHeartbeats 1000000 in
theorem eqf_differ (w : World) (q q' : Option Addr) (c c' n m : Nat) (F : Value) (h : ¬ n = m) :
    Calls Tryd.prog 60 #[.slice q n c, .slice q' m c', F] w fun e w' => e = .returned (.bool false) ∧ Ext w w' := by
  have e1 : ((n : Int) != (m : Int)) = true := bne_iff_ne.2 (by omega)
  have e2 : ((n : Int) == (m : Int)) = false := beq_eq_false_iff_ne.2 (by omega)
  clear h
  go_enter Tryd.func60, Tryd.ntmps60
  go_wp2_with fail
  go_ret
  exact ⟨rfl, Ext.refl w⟩
set_option maxRecDepth 100000 in
set_option maxHeartbeats 4000000 in
theorem eqf_loop (w : World) (q q' : Option Addr) (c c' : Nat) (l m : List Rep) (hl : l.length = m.length) (hmax : l.length ≤ 1000000000) (hsub : SubSame2 w q q' l m) :
    Calls Tryd.prog 60 #[.slice q l.length c, .slice q' l.length c', .func (.func 33) #[] #[]] w fun e w' => e = .returned (.bool (sameL l m)) ∧ Ext w w' := by
  have HL := Lib.hid hl
  have HS := Lib.hid hsub
  clear hl hsub
  go_enter Tryd.func60, Tryd.ntmps60
  go_wp2_with fail
  go_loopw [17] (fun v17 wr => ∃ j : Nat, v17 = .int .i64 j ∧ j ≤ l.length ∧ Hid (Ext w wr) ∧ Hid (∀ i (h1 : i < l.length) (h2 : i < m.length), i < j → l[i] = m[i])) (fun v17 _ => l.length - (intOf v17).toNat)
  case atStart => exact ⟨0, rfl, Nat.zero_le _, Lib.hid (Ext.refl w), Lib.hid (fun j _ _ h => absurd h (by omega))⟩
  case round =>
    obtain ⟨j, rfl, hj, HR, HA⟩ := hrel
    by_cases hlt : j < l.length
    · have hlt2 : j < m.length := by have := HL.out; omega
      obtain ⟨b, o, b', o', q8, n8, c8, q9, n9, c9, rfl, rfl, hc, hc', hs⟩ := HS.out j hlt hlt2
      obtain ⟨p0, p1, p2, p3⟩ := hc.ext HR.out
      obtain ⟨r0, r1, r2, r3⟩ := hc'.ext HR.out
      have HNO : Hid (sameR l[j] m[j] = false → sameL l m = false) := Lib.hid (fun h => sameL_no (fun e => by
        subst e
        rw [sameR_self] at h
        cases h))
      have HYE : Hid (sameR l[j] m[j] = true → ∀ i (h1 : i < l.length) (h2 : i < m.length), i < j + 1 → l[i] = m[i]) := Lib.hid (fun h i h1 h2 hi => by
        rcases Nat.lt_or_ge i j with h' | h'
        · exact HA.out i h1 h2 h'
        · obtain rfl : i = j := by omega
          exact (sameR_iff _ _).1 h)
      have HCALL := Lib.hid (fun W (hW : Ext wr W) => hs W (HR.out.trans hW))
      generalize l[j] = x at p0 p1 p2 p3 HNO HYE HCALL
      generalize m[j] = y at r0 r1 r2 r3 HNO HYE HCALL
      have hb' : b' < wr.heap.size := cell_lt r0
      have hn' : ¬ b' = wr.heap.size := by omega
      have k0 : (0 : Int) ≤ (j : Int) := by omega
      have k1 : (j : Int) < (l.length : Int) := by omega
      clear hc hc' hs HS
      go_wp2_with fail
      refine (HCALL.out _ (((Ext.refl wr).alloc _).alloc _)).mono ?_
      rintro e w1 ⟨rfl, e1⟩
      have HR2 := Lib.hid (HR.out.trans ((((Ext.refl wr).alloc (.cells #[.int .i64 x.k, .int .i64 x.n, .string x.s, .slice q8 n8 c8] 41)).alloc (.cells #[.int .i64 y.k, .int .i64 y.n, .string y.s, .slice q9 n9 c9] 41)).trans e1))
      clear e1 HCALL p0 p1 p2 p3 r0 r1 r2 r3 hb' hn'
      cases hb : sameR x y with
      | true =>
        have HA2 := Lib.hid (HYE.out hb)
        clear HYE HNO hb
        go_wp2_with fail
        go_roundw
        case rel => exact ⟨j + 1, by go_num, by omega, HR2, HA2⟩
        case measure => simp [intOf]; omega
      | false =>
        have HN := Lib.hid (HNO.out hb)
        clear HYE HNO hb
        go_wp2_with fail
        go_ret
        rw [HN.out]
        exact ⟨rfl, HR2.out⟩
    · obtain rfl : j = l.length := by omega
      have HT : Hid (sameL l m = true) := Lib.hid ((sameL_iff l m).2 (List.ext_getElem HL.out (fun i h1 h2 => HA.out i h1 h2 h1)))
      go_wp2_with fail
      go_ret
      rw [HT.out]
      exact ⟨rfl, HR.out⟩
set_option maxRecDepth 100000 in
set_option maxHeartbeats 2000000 in
theorem same_differ (w : World) (k n k' n' : Int) (s s' : ByteArray) (q q' : Option Addr) (c c' m m' : Nat) (h : ¬ (k = k' ∧ n = n' ∧ s = s')) :
    Calls Tryd.prog 33 #[cellsV k n s (.slice q m c), cellsV k' n' s' (.slice q' m' c')] w fun e w' => e = .returned (.bool false) ∧ Ext w w' := by
  have HE := Lib.hid (((Ext.refl w).alloc (.cells #[.int .i64 k, .int .i64 n, .string s, .slice q m c] 41)).alloc (.cells #[.int .i64 k', .int .i64 n', .string s', .slice q' m' c'] 41))
  by_cases h1 : k = k'
  · subst h1
    by_cases h2 : n = n'
    · subst h2
      have h3 : ¬ s = s' := fun e => h ⟨rfl, rfl, e⟩
      have e1 := str_ne h3
      clear h h3
      go_enter Tryd.func33, Tryd.ntmps33
      go_wp2_with fail
      go_ret
      exact ⟨rfl, HE.out⟩
    · have e1 : (n != n') = true := bne_iff_ne.2 h2
      have e2 : (n == n') = false := beq_eq_false_iff_ne.2 h2
      clear h h2
      go_enter Tryd.func33, Tryd.ntmps33
      go_wp2_with fail
      go_ret
      exact ⟨rfl, HE.out⟩
  · have e1 : (k != k') = true := bne_iff_ne.2 h1
    have e2 : (k == k') = false := beq_eq_false_iff_ne.2 h1
    clear h h1
    go_enter Tryd.func33, Tryd.ntmps33
    go_wp2_with fail
    go_ret
    exact ⟨rfl, HE.out⟩
set_option maxRecDepth 100000 in
set_option maxHeartbeats 2000000 in
theorem same_lists (w : World) (k n : Int) (s : ByteArray) (q q' : Option Addr) (c c' m m' : Nat) (r : Bool)
    (h : ∀ W, Ext w W → Calls Tryd.prog 60 #[.slice q m c, .slice q' m' c', .func (.func 33) #[] #[]] W fun e w' => e = .returned (.bool r) ∧ Ext W w') :
    Calls Tryd.prog 33 #[cellsV k n s (.slice q m c), cellsV k n s (.slice q' m' c')] w fun e w' => e = .returned (.bool r) ∧ Ext w w' := by
  have HE := Lib.hid (((Ext.refl w).alloc (.cells #[.int .i64 k, .int .i64 n, .string s, .slice q m c] 41)).alloc (.cells #[.int .i64 k, .int .i64 n, .string s, .slice q' m' c'] 41))
  have H := Lib.hid h
  clear h
  go_enter Tryd.func33, Tryd.ntmps33
  go_wp2_with fail
  refine (H.out _ HE.out).mono ?_
  rintro e w1 ⟨rfl, e1⟩
  have HE1 := Lib.hid (HE.out.trans e1)
  clear e1 H HE
  go_wp2_with fail
  go_ret
  exact ⟨rfl, HE1.out⟩
theorem same_no3 (x y : Rep) (h : ¬ (x.k = y.k ∧ x.n = y.n ∧ x.s = y.s)) : sameR x y = false :=
  same_no x y (fun h' => h ⟨h'.1, h'.2.1, h'.2.2.1⟩)
theorem same_split3 (x y : Rep) (h : x.k = y.k ∧ x.n = y.n ∧ x.s = y.s) : sameR x y = sameL x.l y.l := by
  obtain ⟨h1, h2, h3⟩ := h
  cases x; cases y
  simp only [Rep.k, Rep.n, Rep.s] at h1 h2 h3
  subst h1 h2 h3
  simp [sameR, Rep.l]
theorem same_any : ∀ (D D' : Nat) (ok ok' : Nat → Prop) (w : World) (x y : Rep) (lx ly : Value), ListAt ok w D lx x.l → ListAt ok' w D' ly y.l → itR x ≤ 1000000000 →
    Calls Tryd.prog 33 #[cellsV x.k x.n x.s lx, cellsV y.k y.n y.s ly] w fun e w' => e = .returned (.bool (sameR x y)) ∧ Ext w w' := by
  intro D
  induction D with
  | zero =>
    intro D' ok ok' w x y lx ly hx hy hm
    obtain ⟨q, c, rfl⟩ := hx.slice
    obtain ⟨q', c', rfl⟩ := hy.slice
    by_cases h : x.k = y.k ∧ x.n = y.n ∧ x.s = y.s
    · rw [same_split3 x y h]
      obtain ⟨h1, h2, h3⟩ := h
      rw [← h1, ← h2, ← h3]
      have h0 : x.l = [] := hx.1
      refine same_lists w x.k x.n x.s q q' c c' _ _ _ (fun W hW => ?_)
      by_cases h4 : x.l.length = y.l.length
      · rw [← h4]
        exact eqf_loop W q q' c c' x.l y.l h4 (by rw [h0]; simp) (fun k hk => by rw [h0] at hk; simp at hk)
      · rw [sameL_no (fun e => h4 (by rw [e]))]
        exact eqf_differ W q q' c c' _ _ _ h4
    · rw [same_no3 x y h]
      exact same_differ w _ _ _ _ _ _ q q' c c' _ _ h
  | succ D ih =>
    intro D' ok ok' w x y lx ly hx hy hm
    obtain ⟨q, c, rfl⟩ := hx.slice
    obtain ⟨q', c', hlv⟩ := hy.slice
    subst hlv
    by_cases h : x.k = y.k ∧ x.n = y.n ∧ x.s = y.s
    · rw [same_split3 x y h]
      obtain ⟨h1, h2, h3⟩ := h
      rw [← h1, ← h2, ← h3]
      have hit : itR x = x.l.length + itL x.l := by cases x; simp only [itR, Rep.l]
      refine same_lists w x.k x.n x.s q q' c c' _ _ _ (fun W hW => ?_)
      by_cases h4 : x.l.length = y.l.length
      · rw [← h4]
        refine eqf_loop W q q' c c' x.l y.l h4 (by omega) (fun k hk hk2 => ?_)
        obtain ⟨q1, c1, e0, hx'⟩ := list_at (hx.ext hW)
        injection e0 with e5 e6 e7
        subst e5
        obtain ⟨b, o, lv, e1, e2, e3⟩ := hx' k hk
        cases D' with
        | zero =>
          have h0 : y.l = [] := hy.1
          rw [h0] at hk2; simp at hk2
        | succ D' =>
          obtain ⟨q2, c2, e4, hy'⟩ := list_at (hy.ext hW)
          injection e4 with e5 e6 e7
          subst e5
          obtain ⟨b', o', lv', f1, f2, f3⟩ := hy' k hk2
          obtain ⟨q8, c8, rfl⟩ := e3.slice
          obtain ⟨q9, c9, rfl⟩ := f3.slice
          exact ⟨b, o, b', o', q8, _, c8, q9, _, c9, e1, f1, e2, f2, fun W' hW' => ih D' ok ok' W' _ _ _ _ (e3.ext hW') (f3.ext hW') (by have := it_at x.l k hk; omega)⟩
      · rw [sameL_no (fun e => h4 (by rw [e]))]
        exact eqf_differ W q q' c c' _ _ _ h4
    · rw [same_no3 x y h]
      exact same_differ w _ _ _ _ _ _ q q' c c' _ _ h
end Go.Proofs.YtopdgmchkoaeeaaDoor
