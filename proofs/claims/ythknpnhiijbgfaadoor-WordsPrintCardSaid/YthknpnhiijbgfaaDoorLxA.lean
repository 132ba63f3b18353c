/- WordsLex's walk. -/
import Derived.Test.YthknpnhiijbgfaaDoorWdW
import Derived.Laws.StructEq
import Derived.BigQuiet
namespace Go.Proofs.YthknpnhiijbgfaaDoor
open Go.RowKit
set_option linter.unusedVariables false
set_option linter.unusedSimpArgs false

theorem wd_guard (a b : Operand) (xs ys : Array Value) (w : World) : (eqGuard .neq 31 a b (.agg xs) (.agg ys)).run Tryd.prog w = .ok () w :=
  run_eqGuard_agg w _ _ _ _ _ _ (by kernel_rfl)
theorem wd_eql (x y : Wd) (w : World) :
    (Op.equalIn 10000 31 (.agg #[.int .i64 x.k, .string ⟨x.t.toArray⟩, .int .i64 x.n, .int .i64 x.a]) (.agg #[.int .i64 y.k, .string ⟨y.t.toArray⟩, .int .i64 y.n, .int .i64 y.a])).run Tryd.prog w = .ok (x == y) w := by
  have u3 := Tryd.underlying3
  have a3 := Tryd.isAgg3
  have z3 := Tryd.sizeOf3
  have u2 := Tryd.underlying2
  have a2 := Tryd.isAgg2
  have z2 := Tryd.sizeOf2
  have u4 := Tryd.underlying29
  have a4 := Tryd.isAgg29
  have z4 := Tryd.sizeOf29
  have u9 := Tryd.underlying9
  have a9 := Tryd.isAgg9
  have z9 := Tryd.sizeOf9
  rw [show (10000 : Nat) = 9999 + 1 from rfl, run_equalIn_struct (P := Tryd.prog) w 9999 31 _ _ (by kernel_rfl) (by kernel_rfl)]
  simp only [Program.fieldsOf, Tryd.underlying31]
  obtain ⟨x0, x1, x2, x3⟩ := x
  obtain ⟨y0, y1, y2, y3⟩ := y
  have es : ((⟨x1.toArray⟩ : ByteArray).toList == (⟨y1.toArray⟩ : ByteArray).toList) = (x1 == y1) := by
    rw [Lib.toList_data, Lib.toList_data]
  have e : ((⟨x0, x1, x2, x3⟩ : Wd) == ⟨y0, y1, y2, y3⟩) = (x0 == y0 && (x1 == y1 && (x2 == y2 && x3 == y3))) := by
    rw [Bool.eq_iff_iff]; simp
  rw [e]
  go_simp
  by_cases h1 : x0 = y0 <;> by_cases h2 : x1 = y1 <;> by_cases h3 : x2 = y2 <;> by_cases h4 : x3 = y3 <;> simp [h1, h2, h3, h4, Lib.toList_data]
theorem wd_neq (x y : Wd) (w : World) :
    (binOp .neq 31 (.agg #[.int .i64 x.k, .string ⟨x.t.toArray⟩, .int .i64 x.n, .int .i64 x.a]) (.agg #[.int .i64 y.k, .string ⟨y.t.toArray⟩, .int .i64 y.n, .int .i64 y.a])).run Tryd.prog w = .ok (.bool (x != y)) w := by
  rw [run_neq_struct, wd_eql]
  rfl

theorem cell_lt {w : World} {b o : Nat} {v : Value} (h : w.cell? ⟨b, o, none⟩ = some v) : b < w.heap.size := by
  rcases Nat.lt_or_ge b w.heap.size with h' | h'
  · exact h'
  · have e : w.heap[b]? = none := Array.getElem?_eq_none h'
    simp [World.cell?, e] at h
theorem ext_cell {w w' : World} {b o : Nat} {v : Value} (h : Ext w w') (c : w.cell? ⟨b, o, none⟩ = some v) : w'.cell? ⟨b, o, none⟩ = some v :=
  (h.cell (cell_lt c)).trans c
theorem lexP_len : ∀ (k : Nat) (l : List UInt8) (a : Nat) (ws : List Wd), l.length ≤ k → lexP a l = .ok ws → ws.length ≤ l.length
  | 0, l, a, ws, h, e => by
    obtain rfl : l = [] := List.eq_nil_of_length_eq_zero (by omega)
    rw [lexP_nil] at e; cases e; simp
  | k + 1, l, a, ws, h, e => by
    by_cases hl : l = []
    · subst hl; rw [lexP_nil] at e; cases e; simp
    have hp : 0 < l.length := List.length_pos_iff.2 hl
    cases hw : wordP l with
    | none => rw [lexP_none hl hw] at e; cases e
    | some y =>
      obtain ⟨y, n⟩ := y
      have hm := word_may hw
      rw [lexP_word hl hw hm.2.2.1] at e
      cases hr : lexP (a + n + blankS false (l.drop n)) (l.drop (n + blankS false (l.drop n))) with
      | error p => rw [hr] at e; cases e
      | ok us =>
        rw [hr] at e
        injection e with e
        subst e
        have h1 := lexP_len k _ _ us (by rw [List.length_drop]; omega) hr
        rw [List.length_drop] at h1
        have := hm.2.2.1
        simp only [List.length_cons]
        omega
theorem lexS_len {l : List UInt8} {ws : List Wd} (h : lexS l = .ok ws) : ws.length ≤ l.length := by
  have := lexP_len _ _ _ ws (Nat.le_refl _) h
  rw [List.length_drop] at this
  omega

set_option maxRecDepth 100000 in
set_option maxHeartbeats 1000000 in
theorem law_lex (w : World) (s : ByteArray) (hL : Laid w) : Calls Tryd.prog 3 #[.string s] w fun e w' => e = .returned (.bool true) ∧ Ext w w' := by
  have HL := Lib.hid hL
  clear hL
  by_cases h : 3000 < s.size
  · have d1 : decide ((3000 : Int) < (s.size : Int)) = true := decide_eq_true (by omega)
    have d1n : decide (3000 < s.size) = true := decide_eq_true h
    go_enter Tryd.func3, Tryd.ntmps3
    go_wp2_with fail
    refine (known_any _ HL.out).mono ?_
    rintro e w1 ⟨rfl, he⟩
    have HE := Lib.hid he
    clear he
    go_wp2_with fail
    go_ret
    exact ⟨rfl, HE.out⟩
  · have d1 : decide ((3000 : Int) < (s.size : Int)) = false := decide_eq_false (by omega)
    have d1n : decide (3000 < s.size) = false := decide_eq_false h
    go_enter Tryd.func3, Tryd.ntmps3
    go_wp2_with fail
    refine (lex_any _ s (by omega) HL.out).mono ?_
    rintro e w1 ⟨he1, hr1⟩
    have HE1 := Lib.hid he1
    clear he1
    obtain ⟨r, hr⟩ : ∃ r, lexS s.data.toList = r := ⟨_, rfl⟩
    rw [hr] at hr1
    have HRR := Lib.hid hr
    clear hr
    cases r with
    | error p =>
      simp only at hr1
      subst hr1
      go_wp2_with fail
      refine (rlex_any _ s (by omega)).mono ?_
      rintro e w2 ⟨he2, hr2⟩
      have HE2 := Lib.hid he2
      clear he2
      rw [HRR.out] at hr2
      simp only at hr2
      subst hr2
      have hp : ((p : Int) != (p : Int)) = false := by simp
      go_wp2_with fail
      go_loopw [9] (fun i wr => i = .int .i64 0 ∧ w2 = wr) (fun i _ => 0)
      case atStart => exact ⟨rfl, rfl⟩
      case round =>
        obtain ⟨rfl, rfl⟩ := hrel
        go_wp2_with fail
        refine (known_any _ ((HL.out.ext HE1.out).ext HE2.out)).mono ?_
        rintro e w3 ⟨rfl, he⟩
        have HE3 := Lib.hid he
        clear he
        go_wp2_with fail
        go_ret
        exact ⟨rfl, (HE1.out.trans HE2.out).trans HE3.out⟩
    | ok ws =>
      simp only at hr1
      obtain ⟨v, rfl, ho⟩ := hr1
      have HO1 := Lib.hid ho
      clear ho
      have hlen : ws.length ≤ 3000 := by
        have h1 := lexS_len HRR.out
        have h2 : s.data.toList.length = s.size := rfl
        omega
      obtain ⟨q, c, rfl, hc1⟩ := HO1.out.cells
      have HC1 := Lib.hid hc1
      clear hc1
      go_wp2_with fail
      refine (rlex_any _ s (by omega)).mono ?_
      rintro e w2 ⟨he2, hr2⟩
      have HE2 := Lib.hid he2
      clear he2
      rw [HRR.out] at hr2
      simp only at hr2
      obtain ⟨v, rfl, ho⟩ := hr2
      obtain ⟨q', c', rfl, hc2⟩ := ho.cells
      have HC2 := Lib.hid hc2
      clear hc2 ho
      obtain ⟨n, hn⟩ : ∃ n, ws.length = n := ⟨_, rfl⟩
      rw [hn] at hlen
      have hnn : ((n : Int) != (n : Int)) = false := by simp
      simp only [hn]
      have HN := Lib.hid hn
      clear hn
      go_wp2_with fail
      go_loopw [9] (fun i wr => ∃ k j : Nat, k ≤ n ∧ i = .int .i64 k ∧ wr = w2.drewN j) (fun i _ => n - (intOf i).toNat)
      case atStart => exact ⟨0, 0, Nat.zero_le _, rfl, rfl⟩
      case round =>
        obtain ⟨k, j, hk, rfl, rfl⟩ := hrel
        by_cases hlt : k < n
        · have kl : k < ws.length := by rw [HN.out]; exact hlt
          obtain ⟨g1, rfl, _, hx⟩ := HC1.out (by omega)
          obtain ⟨g2, rfl, _, hy⟩ := HC2.out (by omega)
          obtain ⟨x, hx'⟩ : ∃ x, ws[k] = x := ⟨_, rfl⟩
          have hxk := hx k kl
          have hyk := hy k kl
          rw [hx'] at hxk hyk
          have cx0 := ext_cell HE2.out hxk.1
          have cx1 := ext_cell HE2.out hxk.2.1
          have cx2 := ext_cell HE2.out hxk.2.2.1
          have cx3 := ext_cell HE2.out hxk.2.2.2
          have cy0 := hyk.1
          have cy1 := hyk.2.1
          have cy2 := hyk.2.2.1
          have cy3 := hyk.2.2.2
          have lx := cell_lt cx0
          have ly := cell_lt cy0
          clear hx hy hxk hyk hx' kl
          have k0 : (0 : Int) ≤ (k : Int) := by omega
          have k1 : (k : Int) < (n : Int) := by omega
          have f1 := wd_guard
          have f2 : ∀ wq, (binOp .neq 31 (.agg #[.int .i64 x.k, .string ⟨x.t.toArray⟩, .int .i64 x.n, .int .i64 x.a]) (.agg #[.int .i64 x.k, .string ⟨x.t.toArray⟩, .int .i64 x.n, .int .i64 x.a])).run Tryd.prog wq = .ok (.bool false) wq := fun wq => by
            rw [wd_neq]; simp
          go_wp2_with fail
          go_quiet (fail)
          go_wp2_with fail
          go_roundw
          case rel => exact ⟨k + 1, _, hlt, by go_num, by first | rfl | exact drewN_add ..⟩
          case measure => simp [intOf]; omega
        · obtain rfl : k = n := by omega
          go_wp2_with fail
          refine (known_any _ (((HL.out.ext HE1.out).ext HE2.out).ext ((Ext.refl w2).drewN j))).mono ?_
          rintro e w3 ⟨rfl, he⟩
          have HE3 := Lib.hid he
          clear he
          go_wp2_with fail
          go_ret
          exact ⟨rfl, ((HE1.out.trans HE2.out).trans ((Ext.refl w2).drewN j)).trans HE3.out⟩
end Go.Proofs.YthknpnhiijbgfaaDoor
