/- Are two replies the same? The document's Same. How great a reply is. The document's Size, lined, fine, Check. -/
import Derived.Test.YtlfihdcgbhdajaaGreatDoorYA3
import Derived.OwnWalk
import Derived.Test.YtlfihdcgbhdajaaGreatDoorYA7
import Derived.Deep.LoopGhost
import Derived.Laws.Bits64b
import Derived.Deep.AppendLies
import Derived.Test.YtlfihdcgbhdajaaGreatDoorYA1
namespace Go.Proofs.YtlfihdcgbhdajaaGreatDoor
open Go.RowKit
set_option linter.unusedVariables false
set_option linter.unusedSimpArgs false

theorem it_at : ∀ (l : List Rep) (k : Nat) (h : k < l.length), itR l[k] ≤ itL l
 | x :: l, 0, h => by simp only [List.getElem_cons_zero, itL]; omega
 | x :: l, k + 1, h => by simp only [List.getElem_cons_succ, itL]; have := it_at l k (by simpa using h); omega
def CellsR (w : World) (b o : Nat) (r : Rep) (lv : Value) : Prop :=
 w.cell? ⟨b, o, none⟩ = some (.int .i64 r.k) ∧ w.cell? ⟨b, o + 1, none⟩ = some (.int .i64 r.n) ∧ w.cell? ⟨b, o + 2, none⟩ = some (.string r.s) ∧ w.cell? ⟨b, o + 3, none⟩ = some lv
theorem CellsR.ext {w w' : World} {b o : Nat} {r : Rep} {lv : Value} (h : CellsR w b o r lv) (he : Ext w w') : CellsR w' b o r lv := ⟨he.cell h.1, he.cell h.2.1, he.cell h.2.2.1, he.cell h.2.2.2⟩
abbrev cellsV (k n : Int) (s : ByteArray) (lv : Value) : Value := .agg #[.int .i64 k, .int .i64 n, .string s, lv]
theorem list_at {ok : Nat → Prop} {w : World} {d : Nat} {v : Value} {l : List Rep} (h : ListAt ok w (d + 1) v l) : ∃ q c, v = .slice q l.length c ∧ ∀ k (hk : k < l.length), ∃ b o lv, q = some ⟨b, o, none⟩ ∧ CellsR w b (o + k * 4) l[k] lv ∧ ListAt ok w d lv l[k].l := by
 obtain ⟨q, c, rfl, hx⟩ := h
 refine ⟨q, c, rfl, fun k hk => ?_⟩
 obtain ⟨b, o, rfl, _, hy⟩ := hx (by omega)
 obtain ⟨h0, h1, h2, lv, h3, h4⟩ := hy k hk
 exact ⟨b, o, lv, rfl, ⟨h0, h1, h2, h3⟩, h4⟩
end Go.Proofs.YtlfihdcgbhdajaaGreatDoor
namespace Go.Proofs.YtlfihdcgbhdajaaGreatDoor
open Go.RowKit
set_option linter.unusedVariables false
set_option linter.unusedSimpArgs false

mutual
def szR : Rep → Nat → Nat
 | .mk _ _ s l, n => szL l (n + 5 + min s.size 3000)
def szL : List Rep → Nat → Nat
 | [], n => n
 | x :: l, n => if n ≤ 3000 then szL l (szR x n) else n
end
mutual
theorem szR_bd : ∀ (x : Rep) (n : Nat), n ≤ 3000 → n + 5 ≤ szR x n ∧ szR x n ≤ 6005
 | .mk _ _ s l, n, h => by
  have h1 := szL_bd l (n + 5 + min s.size 3000) (by omega)
  simp only [szR]
  omega
theorem szL_bd : ∀ (l : List Rep) (n : Nat), n ≤ 6005 → n ≤ szL l n ∧ szL l n ≤ 6005
 | [], n, h => by simp only [szL]; omega
 | x :: l, n, h => by
  simp only [szL]
  by_cases hn : n ≤ 3000
  ·rw [if_pos hn]
   have h1 := szR_bd x n hn
   have h2 := szL_bd l (szR x n) h1.2
   omega
  ·rw [if_neg hn]; omega
end
mutual
theorem szR_few : ∀ (x : Rep) (n : Nat), n ≤ 3000 → szR x n ≤ 3000 → n + 5 + 5 * itR x + txR x ≤ szR x n
 | .mk _ _ s l, n, h, hs => by
  simp only [szR] at hs ⊢
  simp only [itR, txR]
  have h0 := szL_bd l (n + 5 + min s.size 3000) (by omega)
  have h1 := szL_few l (n + 5 + min s.size 3000) (by omega) hs
  omega
theorem szL_few : ∀ (l : List Rep) (n : Nat), n ≤ 3000 → szL l n ≤ 3000 → n + 5 * l.length + 5 * itL l + txL l ≤ szL l n
 | [], n, h, hs => by simp only [szL, itL, txL, List.length_nil]; omega
 | x :: l, n, h, hs => by
  simp only [szL] at hs ⊢
  rw [if_pos h] at hs ⊢
  have h1 := szR_bd x n h
  have h2 := szL_bd l (szR x n) h1.2
  have h3 := szR_few x n h (by omega)
  have h4 := szL_few l (szR x n) (by omega) hs
  simp only [itL, txL, List.length_cons]
  omega
end
theorem szL_past (l : List Rep) (n : Nat) (h : ¬ n ≤ 3000) : szL l n = n := by
 cases l with
 | nil => rfl
 | cons x l => simp only [szL, if_neg h]
theorem szL_step (l : List Rep) (k n : Nat) (hk : k < l.length) (hn : n ≤ 3000) : szL (l.drop k) n = szL (l.drop (k + 1)) (szR l[k] n) := by
 rw [List.drop_eq_getElem_cons hk]
 simp only [szL, if_pos hn]
def SubSize (w : World) (q : Option Addr) (l : List Rep) : Prop :=
 ∀ k (h : k < l.length), ∃ b o q9 n9 c9, q = some ⟨b, o, none⟩ ∧ CellsR w b (o + k * 4) l[k] (.slice q9 n9 c9) ∧
  ∀ W (n : Nat), Ext w W → n ≤ 3000 → Calls Tryz.prog 4 #[cellsV l[k].k l[k].n l[k].s (.slice q9 n9 c9), .int .i64 (n : Int)] W fun e w' => e = .returned (.int .i64 (szR l[k] n : Int)) ∧ Ext W w'
set_option maxRecDepth 100000 in
set_option maxHeartbeats 4000000 in
theorem size_loop (w : World) (k n : Int) (s : ByteArray) (q : Option Addr) (c : Nat) (l : List Rep) (N : Nat) (hN : N ≤ 3000) (hsub : SubSize w q l) :
  Calls Tryz.prog 4 #[cellsV k n s (.slice q l.length c), .int .i64 (N : Int)] w fun e w' => e = .returned (.int .i64 (szL l (N + 5 + min s.size 3000) : Int)) ∧ Ext w w' := by
 have HE := Lib.hid ((Ext.refl w).alloc (.cells #[.int .i64 k, .int .i64 n, .string s, .slice q l.length c] 25))
 have HX := Lib.hid (Blk.new w 25 #[.int .i64 k, .int .i64 n, .string s, .slice q l.length c])
 have HS := Lib.hid hsub
 obtain ⟨S, hS⟩ : ∃ S, s.size = S := ⟨_, rfl⟩
 have hm : min (S : Int) 3000 = ((min S 3000 : Nat) : Int) := by omega
 have hm2 : min S 3000 ≤ 3000 := by omega
 rw [hS]
 obtain ⟨M, hM⟩ : ∃ M, min S 3000 = M := ⟨_, rfl⟩
 rw [hM] at hm hm2 ⊢
 have HMM := Lib.hid hM
 have HSS := Lib.hid hS
 clear hsub hM
 go_enter Tryz.func4, Tryz.ntmps4
 go_wp2_with fail
 clear hm hS
 generalize w.alloc (.cells #[.int .i64 k, .int .i64 n, .string s, .slice q l.length c] 25) = w0 at HE HX ⊢
 go_loopw [1, 5] (fun v1 v5 wr => ∃ j m : Nat, v5 = .int .i64 j ∧ v1 = .int .i64 m ∧ j ≤ l.length ∧ 5 * j ≤ m ∧ m ≤ 6005 ∧ Hid (Ext w0 wr) ∧ Hid (szL (l.drop j) m = szL l (N + 5 + M))) (fun _ v5 _ => l.length - (intOf v5).toNat)
 case atStart => exact ⟨0, N + 5 + M, rfl, by go_num, Nat.zero_le _, by omega, by omega, Lib.hid (Ext.refl w0), Lib.hid rfl⟩
 case round =>
  obtain ⟨j, m, rfl, rfl, hj, hjm, hm6, HR, HA⟩ := hrel
  have x3 := (HX.out.ext HR.out).cell 3
  simp only [List.getElem?_toArray, List.getElem?_cons_zero, List.getElem?_cons_succ] at x3
  by_cases hlt : j < l.length
  ·by_cases hm3 : m ≤ 3000
   ·obtain ⟨b, o, q9, n9, c9, rfl, hc, hs⟩ := HS.out j hlt
    have hA := HA.out
    rw [szL_step l j m hlt hm3] at hA
    have hbd := szR_bd l[j] m hm3
    obtain ⟨p0, p1, p2, p3⟩ := hc.ext (HE.out.trans HR.out)
    have HC := Lib.hid (hs wr m (HE.out.trans HR.out) hm3)
    generalize l[j] = x at p0 p1 p2 p3 HC hA hbd
    obtain ⟨m', hm'⟩ : ∃ m', szR x m = m' := ⟨_, rfl⟩
    rw [hm'] at hA HC hbd
    have HA2 := Lib.hid hA
    have k0 : (0 : Int) ≤ (j : Int) := by omega
    have k1 : (j : Int) < (l.length : Int) := by omega
    have d1 : decide ((j : Int) < (l.length : Int)) = true := decide_eq_true k1
    have d1n : decide (j < l.length) = true := decide_eq_true hlt
    have d2 : decide ((m : Int) ≤ 3000) = true := decide_eq_true (by omega)
    have d2n : decide (m ≤ 3000) = true := decide_eq_true hm3
    clear hc hs hA hm'
    go_wp2_with fail
    refine HC.out.mono ?_
    rintro e w1 ⟨rfl, e1⟩
    have HR2 := Lib.hid (HR.out.trans e1)
    clear e1 HC p0 p1 p2 p3 x3
    go_wp2_with fail
    go_roundw
    case rel => exact ⟨j + 1, m', by go_num, rfl, by omega, by omega, by omega, HR2, HA2⟩
    case measure => simp [intOf]; omega
   ·have hA := HA.out
    rw [szL_past _ _ hm3] at hA
    have HA2 := Lib.hid hA
    have d1 : decide ((j : Int) < (l.length : Int)) = true := decide_eq_true (by omega)
    have d1n : decide (j < l.length) = true := decide_eq_true hlt
    have d2 : decide ((m : Int) ≤ 3000) = false := decide_eq_false (by omega)
    have d2n : decide (m ≤ 3000) = false := decide_eq_false hm3
    clear hA
    go_wp2_with fail
    go_ret
    rw [← HA2.out]
    exact ⟨rfl, HE.out.trans HR.out⟩
  ·have hA := HA.out
   rw [List.drop_eq_nil_of_le (by omega)] at hA
   simp only [szL] at hA
   have HA2 := Lib.hid hA
   have d1 : decide ((j : Int) < (l.length : Int)) = false := decide_eq_false (by omega)
   have d1n : decide (j < l.length) = false := decide_eq_false hlt
   clear hA
   go_wp2_with fail
   go_ret
   rw [← HA2.out]
   exact ⟨rfl, HE.out.trans HR.out⟩
theorem size_any : ∀ (D : Nat) (ok : Nat → Prop) (w : World) (x : Rep) (lv : Value) (n : Nat), ListAt ok w D lv x.l → n ≤ 3000 →
  Calls Tryz.prog 4 #[cellsV x.k x.n x.s lv, .int .i64 (n : Int)] w fun e w' => e = .returned (.int .i64 (szR x n : Int)) ∧ Ext w w' := by
 intro D
 induction D with
 | zero =>
  intro ok w x lv n hx hn
  obtain ⟨q, c, rfl⟩ := hx.slice
  have h0 : x.l = [] := hx.1
  have e : szR x n = szL x.l (n + 5 + min x.s.size 3000) := by cases x; rfl
  rw [e]
  exact size_loop w x.k x.n x.s q c x.l n hn (fun k hk => by rw [h0] at hk; simp at hk)
 | succ D ih =>
  intro ok w x lv n hx hn
  obtain ⟨q, c, rfl, hx'⟩ := list_at hx
  have e : szR x n = szL x.l (n + 5 + min x.s.size 3000) := by cases x; rfl
  rw [e]
  refine size_loop w x.k x.n x.s q c x.l n hn (fun k hk => ?_)
  obtain ⟨b, o, lv, e1, e2, e3⟩ := hx' k hk
  obtain ⟨q9, c9, rfl⟩ := e3.slice
  exact ⟨b, o, q9, _, c9, e1, e2, fun W m hW hm => ih ok W _ _ m (e3.ext hW) hm⟩
end Go.Proofs.YtlfihdcgbhdajaaGreatDoor
namespace Go.Proofs.YtlfihdcgbhdajaaGreatDoor
open Go.RowKit
set_option linter.unusedVariables false
set_option linter.unusedSimpArgs false

theorem it_next : ∀ (l : List Rep) (k : Nat) (h : k < l.length), itL (l.take (k + 1)) = itL (l.take k) + itR l[k]
 | x :: l, 0, h => by simp [itL]
 | x :: l, k + 1, h => by
  simp only [List.take_succ_cons, itL, List.getElem_cons_succ]
  have := it_next l k (by simpa using h)
  omega
theorem tx_next : ∀ (l : List Rep) (k : Nat) (h : k < l.length), txL (l.take (k + 1)) = txL (l.take k) + txR l[k]
 | x :: l, 0, h => by simp [txL]
 | x :: l, k + 1, h => by
  simp only [List.take_succ_cons, txL, List.getElem_cons_succ]
  have := tx_next l k (by simpa using h)
  omega
theorem it_take : ∀ (l : List Rep) (k : Nat), itL (l.take k) ≤ itL l
 | [], k => by simp
 | x :: l, 0 => by simp [itL]
 | x :: l, k + 1 => by simp only [List.take_succ_cons, itL]; have := it_take l k; omega
theorem tx_take : ∀ (l : List Rep) (k : Nat), txL (l.take k) ≤ txL l
 | [], k => by simp
 | x :: l, 0 => by simp [txL]
 | x :: l, k + 1 => by simp only [List.take_succ_cons, txL]; have := tx_take l k; omega
def SubSizes (w : World) (q : Option Addr) (l : List Rep) : Prop :=
 ∀ k (h : k < l.length), ∃ b o q9 n9 c9, q = some ⟨b, o, none⟩ ∧ CellsR w b (o + k * 4) l[k] (.slice q9 n9 c9) ∧
  ∀ W (I T : Nat), Ext w W → I + itR l[k] ≤ 65536 → T + txR l[k] ≤ 1048576 → Calls Tryz.prog 54 #[cellsV l[k].k l[k].n l[k].s (.slice q9 n9 c9), .int .i64 (I : Int), .int .i64 (T : Int)] W fun e w' => e = .returned (.tuple #[.int .i64 ((I + itR l[k] : Nat) : Int), .int .i64 ((T + txR l[k] : Nat) : Int)]) ∧ Ext W w'
set_option maxRecDepth 100000 in
set_option maxHeartbeats 4000000 in
theorem sizes_loop (w : World) (k n : Int) (s : ByteArray) (q : Option Addr) (c : Nat) (l : List Rep) (I T : Nat) (hI : I + (l.length + itL l) ≤ 65536) (hT : T + (s.size + txL l) ≤ 1048576) (hsub : SubSizes w q l) :
  Calls Tryz.prog 54 #[cellsV k n s (.slice q l.length c), .int .i64 (I : Int), .int .i64 (T : Int)] w fun e w' => e = .returned (.tuple #[.int .i64 ((I + (l.length + itL l) : Nat) : Int), .int .i64 ((T + (s.size + txL l) : Nat) : Int)]) ∧ Ext w w' := by
 have HE := Lib.hid ((Ext.refl w).alloc (.cells #[.int .i64 k, .int .i64 n, .string s, .slice q l.length c] 25))
 have HX := Lib.hid (Blk.new w 25 #[.int .i64 k, .int .i64 n, .string s, .slice q l.length c])
 have HS := Lib.hid hsub
 have d1 : decide (1048576 - (T : Int) < (s.size : Int)) = false := decide_eq_false (by omega)
 have d2 : decide (65536 - (I : Int) < (l.length : Int)) = false := decide_eq_false (by omega)
 clear hsub
 go_enter Tryz.func54, Tryz.ntmps54
 go_wp2_with fail
 clear d1 d2
 generalize w.alloc (.cells #[.int .i64 k, .int .i64 n, .string s, .slice q l.length c] 25) = w0 at HE HX ⊢
 go_loopw [1, 2, 8] (fun v1 v2 v8 wr => ∃ j A B : Nat, v8 = .int .i64 j ∧ v1 = .int .i64 A ∧ v2 = .int .i64 B ∧ j ≤ l.length ∧ A = I + (l.length + itL (l.take j)) ∧ B = T + (s.size + txL (l.take j)) ∧ Hid (Ext w0 wr)) (fun _ _ v8 _ => l.length - (intOf v8).toNat)
 case atStart => exact ⟨0, I + l.length, T + s.size, rfl, by go_num, by go_num, Nat.zero_le _, by simp [itL], by simp [txL], Lib.hid (Ext.refl w0)⟩
 case round =>
  obtain ⟨j, A, B, rfl, rfl, rfl, hj, hA, hB, HR⟩ := hrel
  have x3 := (HX.out.ext HR.out).cell 3
  simp only [List.getElem?_toArray, List.getElem?_cons_zero, List.getElem?_cons_succ] at x3
  have hA6 : A ≤ 65536 := by have := it_take l j; omega
  have hB6 : B ≤ 1048576 := by have := tx_take l j; omega
  have g1 : decide ((A : Int) ≤ 65536) = true := decide_eq_true (by omega)
  have g1n : decide (A ≤ 65536) = true := decide_eq_true hA6
  have g2 : decide ((B : Int) ≤ 1048576) = true := decide_eq_true (by omega)
  have g2n : decide (B ≤ 1048576) = true := decide_eq_true hB6
  have HA := Lib.hid hA
  have HB := Lib.hid hB
  clear hA hB
  by_cases hlt : j < l.length
  ·obtain ⟨b, o, q9, n9, c9, rfl, hc, hs⟩ := HS.out j hlt
   obtain ⟨p0, p1, p2, p3⟩ := hc.ext (HE.out.trans HR.out)
   have h1 := it_next l j hlt
   have h2 := tx_next l j hlt
   have h3 := it_take l (j + 1)
   have h4 := tx_take l (j + 1)
   have hA2 : A + itR l[j] = I + (l.length + itL (l.take (j + 1))) := by have := HA.out; omega
   have hB2 : B + txR l[j] = T + (s.size + txL (l.take (j + 1))) := by have := HB.out; omega
   have HC := Lib.hid (hs wr A B (HE.out.trans HR.out) (by omega) (by omega))
   have HA2 := Lib.hid hA2
   have HB2 := Lib.hid hB2
   clear hA2 hB2 h1 h2 h3 h4
   generalize l[j] = x at p0 p1 p2 p3 HC HA2 HB2
   generalize itR x = ix at HC HA2
   generalize txR x = tx at HC HB2
   have k0 : (0 : Int) ≤ (j : Int) := by omega
   have k1 : (j : Int) < (l.length : Int) := by omega
   have d1 : decide ((j : Int) < (l.length : Int)) = true := decide_eq_true k1
   have d1n : decide (j < l.length) = true := decide_eq_true hlt
   clear hc hs
   go_wp2_with fail
   refine HC.out.mono ?_
   rintro e w1 ⟨rfl, e1⟩
   have HR2 := Lib.hid (HR.out.trans e1)
   clear e1 HC p0 p1 p2 p3 x3
   go_wp2_with fail
   go_roundw
   case rel => exact ⟨j + 1, A + ix, B + tx, by go_num, rfl, rfl, by omega, HA2.out, HB2.out, HR2⟩
   case measure => simp [intOf]; omega
  ·obtain rfl : j = l.length := by omega
   have d1 : decide ((l.length : Int) < (l.length : Int)) = false := decide_eq_false (by omega)
   have hA := HA.out
   have hB := HB.out
   rw [List.take_length] at hA hB
   have HA2 := Lib.hid hA
   have HB2 := Lib.hid hB
   clear hA hB
   go_wp2_with fail
   go_ret2
   refine ⟨?_, HE.out.trans HR.out⟩
   have h1 := HA2.out
   have h2 := HB2.out
   rw [← h1, ← h2]
   rfl
theorem sizes_any : ∀ (D : Nat) (ok : Nat → Prop) (w : World) (x : Rep) (lv : Value) (I T : Nat), ListAt ok w D lv x.l → I + itR x ≤ 65536 → T + txR x ≤ 1048576 →
  Calls Tryz.prog 54 #[cellsV x.k x.n x.s lv, .int .i64 (I : Int), .int .i64 (T : Int)] w fun e w' => e = .returned (.tuple #[.int .i64 ((I + itR x : Nat) : Int), .int .i64 ((T + txR x : Nat) : Int)]) ∧ Ext w w' := by
 intro D
 induction D with
 | zero =>
  intro ok w x lv I T hx hI hT
  obtain ⟨q, c, rfl⟩ := hx.slice
  have h0 : x.l = [] := hx.1
  have e1 : itR x = x.l.length + itL x.l := by cases x; simp only [itR, Rep.l]
  have e2 : txR x = x.s.size + txL x.l := by cases x; simp only [txR, Rep.l, Rep.s]
  rw [e1] at hI ⊢
  rw [e2] at hT ⊢
  exact sizes_loop w x.k x.n x.s q c x.l I T hI hT (fun k hk => by rw [h0] at hk; simp at hk)
 | succ D ih =>
  intro ok w x lv I T hx hI hT
  obtain ⟨q, c, rfl, hx'⟩ := list_at hx
  have e1 : itR x = x.l.length + itL x.l := by cases x; simp only [itR, Rep.l]
  have e2 : txR x = x.s.size + txL x.l := by cases x; simp only [txR, Rep.l, Rep.s]
  rw [e1] at hI ⊢
  rw [e2] at hT ⊢
  refine sizes_loop w x.k x.n x.s q c x.l I T hI hT (fun k hk => ?_)
  obtain ⟨b, o, lv, f1, f2, f3⟩ := hx' k hk
  obtain ⟨q9, c9, rfl⟩ := f3.slice
  exact ⟨b, o, q9, _, c9, f1, f2, fun W I T hW h1 h2 => ih ok W _ _ I T (f3.ext hW) h1 h2⟩
/-! ### lined -/
theorem lined_no {s : ByteArray} {j : Nat} (hj : j < s.size) (h : s[j].toNat = 13 ∨ s[j].toNat = 10) : linedB s = false := by
 unfold linedB
 rw [List.all_eq_false]
 refine ⟨s[j], ?_, ?_⟩
 ·have : s[j] = s.data.toList[j]'hj := rfl
  rw [this]; exact List.getElem_mem _
 ·rcases h with h | h <;> simp [h]
theorem lined_yes {s : ByteArray} (h : ∀ j (hj : j < s.size), ¬ s[j].toNat = 13 ∧ ¬ s[j].toNat = 10) : linedB s = true := by
 unfold linedB
 rw [List.all_eq_true]
 intro c hc
 obtain ⟨j, hj, rfl⟩ := List.getElem_of_mem hc
 have h1 : ¬ (s.data.toList[j]).toNat = 13 := (h j hj).1
 have h2 : ¬ (s.data.toList[j]).toNat = 10 := (h j hj).2
 simp only [beq_eq_false_iff_ne.2 h1, beq_eq_false_iff_ne.2 h2, Bool.not_false, Bool.and_self]
set_option maxRecDepth 100000 in
set_option maxHeartbeats 2000000 in
theorem lined_any (s : ByteArray) (w : World) (hs : s.size ≤ 1000000000) :
  Calls Tryz.prog 82 #[.string s] w fun e w' => e = .returned (.bool (linedB s)) ∧ w = w' := by
 go_enter Tryz.func82, Tryz.ntmps82
 go_wp2_with fail
 go_loop [3] (fun v3 => ∃ j : Nat, v3 = .int .i64 j ∧ j ≤ s.size ∧ Hid (∀ i (hi : i < s.size), i < j → ¬ s[i].toNat = 13 ∧ ¬ s[i].toNat = 10)) (fun v3 => s.size - (intOf v3).toNat)
 case atStart => exact ⟨0, rfl, Nat.zero_le _, Lib.hid (fun i _ h => absurd h (by omega))⟩
 case round =>
  obtain ⟨j, rfl, hj, HA⟩ := hrel
  by_cases hlt : j < s.size
  ·have k0 : (0 : Int) ≤ (j : Int) := by omega
   have k1 : (j : Int) < (s.size : Int) := by omega
   have HNO : Hid (s[j].toNat = 13 ∨ s[j].toNat = 10 → linedB s = false) := Lib.hid (lined_no hlt)
   by_cases h13 : (s[j]'hlt).toNat = 13
   ·have e1 : (((s[j]'hlt).toNat : Int) == 13) = true := beq_iff_eq.2 (by omega)
    have HN := Lib.hid (HNO.out (.inl h13))
    clear h13 HNO
    go_wp2_with fail
    go_ret
    rw [HN.out]
    exact ⟨rfl, rfl⟩
   ·have e1 : (((s[j]'hlt).toNat : Int) == 13) = false := beq_eq_false_iff_ne.2 (by omega)
    by_cases h10 : (s[j]'hlt).toNat = 10
    ·have e2 : (((s[j]'hlt).toNat : Int) == 10) = true := beq_iff_eq.2 (by omega)
     have HN := Lib.hid (HNO.out (.inr h10))
     clear h13 h10 HNO
     go_wp2_with fail
     go_ret
     rw [HN.out]
     exact ⟨rfl, rfl⟩
    ·have e2 : (((s[j]'hlt).toNat : Int) == 10) = false := beq_eq_false_iff_ne.2 (by omega)
     have HA2 : Hid (∀ i (hi : i < s.size), i < j + 1 → ¬ s[i].toNat = 13 ∧ ¬ s[i].toNat = 10) := Lib.hid (fun i hi h => by
      rcases Nat.lt_or_ge i j with h' | h'
      ·exact HA.out i hi h'
      ·obtain rfl : i = j := by omega
       exact ⟨h13, h10⟩)
     clear h13 h10 HNO
     go_wp2_with fail
     go_round
     case rel => exact ⟨j + 1, by go_num, by omega, HA2⟩
     case measure => simp [intOf]; omega
  ·obtain rfl : j = s.size := by omega
   have HT := Lib.hid (lined_yes (s := s) (fun i hi => HA.out i hi hi))
   go_wp2_with fail
   go_ret
   rw [HT.out]
   exact ⟨rfl, rfl⟩
/-! ### fine -/
theorem str_some {s : ByteArray} (h : ¬ s.size = 0) : (s.toList == (⟨#[]⟩ : ByteArray).toList) = false ∧ s.toList.isEmpty = false ∧ ¬ s.toList = [] := by
 rw [Lib.toList_data, Lib.toList_data]
 have : ¬ s.data.toList = [] := fun e => h (by have := congrArg List.length e; exact this)
 refine ⟨by simpa using this, by simpa using this, this⟩
def leafB (k n : Int) (s : ByteArray) (m : Nat) : Bool :=
 if k = 0 then n == 0 && s.size == 0 && m == 0
 else if k = 1 ∨ k = 2 then n == 0 && linedB s && m == 0
 else if k = 3 then s.size == 0 && m == 0
 else if k = 4 then n == 0 && m == 0
 else false
theorem fine_leafB (d : Nat) (x : Rep) (h : ¬ x.k = 5) : fineR d x = leafB x.k x.n x.s x.l.length := by
 cases x with
 | mk k n s l =>
  have h5 : ¬ k = 5 := h
  unfold leafB
  simp only [fineR, Rep.k, Rep.n, Rep.s, Rep.l, if_neg h5]
  rfl
set_option maxRecDepth 100000 in
set_option maxHeartbeats 4000000 in
theorem fine_k0 (w : World) (n : Int) (s : ByteArray) (q : Option Addr) (m c : Nat) (d : Int) (hs : s.size ≤ 1000000000) :
  Calls Tryz.prog 55 #[cellsV 0 n s (.slice q m c), .int .i64 d] w fun e w' => e = .returned (.bool (leafB 0 n s m)) ∧ Ext w w' := by
 have HE := Lib.hid ((Ext.refl w).alloc (.cells #[.int .i64 0, .int .i64 n, .string s, .slice q m c] 25))
 by_cases hn : n = 0
 ·subst hn
  by_cases hz : s.size = 0
  ·obtain rfl := bytes_nil hz
   clear hz
   by_cases hm : m = 0
   ·subst hm
    have HV : Hid (leafB 0 0 ⟨#[]⟩ 0 = true) := Lib.hid (by first | rfl | simp [leafB])
    go_enter Tryz.func55, Tryz.ntmps55
    go_wp2_with fail
    go_ret
    rw [HV.out]
    exact ⟨rfl, HE.out⟩
   ·have em : ((m : Int) == 0) = false := beq_eq_false_iff_ne.2 (by omega)
    have em2 : decide (m = 0) = false := decide_eq_false hm
    have HV : Hid (leafB 0 0 ⟨#[]⟩ m = false) := Lib.hid (by first | rfl | simp [leafB, hm])
    clear hm
    go_enter Tryz.func55, Tryz.ntmps55
    go_wp2_with fail
    go_ret
    rw [HV.out]
    exact ⟨rfl, HE.out⟩
  ·obtain ⟨z1, z2, z3⟩ := str_some hz
   have HV : Hid (leafB 0 0 s m = false) := Lib.hid (by first | rfl | simp [leafB, hz])
   clear hz
   go_enter Tryz.func55, Tryz.ntmps55
   go_wp2_with fail
   go_ret
   rw [HV.out]
   exact ⟨rfl, HE.out⟩
 ·have en : (n == 0) = false := beq_eq_false_iff_ne.2 hn
  have HV : Hid (leafB 0 n s m = false) := Lib.hid (by first | rfl | simp [leafB, hn])
  clear hn
  go_enter Tryz.func55, Tryz.ntmps55
  go_wp2_with fail
  go_ret
  rw [HV.out]
  exact ⟨rfl, HE.out⟩
set_option maxRecDepth 100000 in
set_option maxHeartbeats 4000000 in
theorem fine_k1 (w : World) (n : Int) (s : ByteArray) (q : Option Addr) (m c : Nat) (d : Int) (hs : s.size ≤ 1000000000) :
  Calls Tryz.prog 55 #[cellsV 1 n s (.slice q m c), .int .i64 d] w fun e w' => e = .returned (.bool (leafB 1 n s m)) ∧ Ext w w' := by
 have HE := Lib.hid ((Ext.refl w).alloc (.cells #[.int .i64 1, .int .i64 n, .string s, .slice q m c] 25))
 by_cases hn : n = 0
 ·subst hn
  have hL := fun w => lined_any s w hs
  cases hb : linedB s with
  | true =>
   rw [hb] at hL
   have HL := Lib.hid hL
   have HB := Lib.hid hb
   clear hL hb
   by_cases hm : m = 0
   ·subst hm
    have HV : Hid (leafB 1 0 s 0 = true) := Lib.hid (by first | rfl | simp [leafB, HB.out])
    go_enter Tryz.func55, Tryz.ntmps55
    go_wp2_with (go_at_call 82; refine (HL.out _).mono ?_; rintro e w' ⟨rfl, rfl⟩)
    go_ret
    rw [HV.out]
    exact ⟨rfl, HE.out⟩
   ·have em : ((m : Int) == 0) = false := beq_eq_false_iff_ne.2 (by omega)
    have em2 : decide (m = 0) = false := decide_eq_false hm
    have HV : Hid (leafB 1 0 s m = false) := Lib.hid (by first | rfl | simp [leafB, HB.out, hm])
    clear hm
    go_enter Tryz.func55, Tryz.ntmps55
    go_wp2_with (go_at_call 82; refine (HL.out _).mono ?_; rintro e w' ⟨rfl, rfl⟩)
    go_ret
    rw [HV.out]
    exact ⟨rfl, HE.out⟩
  | false =>
   rw [hb] at hL
   have HL := Lib.hid hL
   have HV : Hid (leafB 1 0 s m = false) := Lib.hid (by first | rfl | simp [leafB, hb])
   clear hL hb
   go_enter Tryz.func55, Tryz.ntmps55
   go_wp2_with (go_at_call 82; refine (HL.out _).mono ?_; rintro e w' ⟨rfl, rfl⟩)
   go_ret
   rw [HV.out]
   exact ⟨rfl, HE.out⟩
 ·have en : (n == 0) = false := beq_eq_false_iff_ne.2 hn
  have HV : Hid (leafB 1 n s m = false) := Lib.hid (by first | rfl | simp [leafB, hn])
  clear hn
  go_enter Tryz.func55, Tryz.ntmps55
  go_wp2_with fail
  go_ret
  rw [HV.out]
  exact ⟨rfl, HE.out⟩
set_option maxRecDepth 100000 in
set_option maxHeartbeats 4000000 in
theorem fine_k2 (w : World) (n : Int) (s : ByteArray) (q : Option Addr) (m c : Nat) (d : Int) (hs : s.size ≤ 1000000000) :
  Calls Tryz.prog 55 #[cellsV 2 n s (.slice q m c), .int .i64 d] w fun e w' => e = .returned (.bool (leafB 2 n s m)) ∧ Ext w w' := by
 have HE := Lib.hid ((Ext.refl w).alloc (.cells #[.int .i64 2, .int .i64 n, .string s, .slice q m c] 25))
 by_cases hn : n = 0
 ·subst hn
  have hL := fun w => lined_any s w hs
  cases hb : linedB s with
  | true =>
   rw [hb] at hL
   have HL := Lib.hid hL
   have HB := Lib.hid hb
   clear hL hb
   by_cases hm : m = 0
   ·subst hm
    have HV : Hid (leafB 2 0 s 0 = true) := Lib.hid (by first | rfl | simp [leafB, HB.out])
    go_enter Tryz.func55, Tryz.ntmps55
    go_wp2_with (go_at_call 82; refine (HL.out _).mono ?_; rintro e w' ⟨rfl, rfl⟩)
    go_ret
    rw [HV.out]
    exact ⟨rfl, HE.out⟩
   ·have em : ((m : Int) == 0) = false := beq_eq_false_iff_ne.2 (by omega)
    have em2 : decide (m = 0) = false := decide_eq_false hm
    have HV : Hid (leafB 2 0 s m = false) := Lib.hid (by first | rfl | simp [leafB, HB.out, hm])
    clear hm
    go_enter Tryz.func55, Tryz.ntmps55
    go_wp2_with (go_at_call 82; refine (HL.out _).mono ?_; rintro e w' ⟨rfl, rfl⟩)
    go_ret
    rw [HV.out]
    exact ⟨rfl, HE.out⟩
  | false =>
   rw [hb] at hL
   have HL := Lib.hid hL
   have HV : Hid (leafB 2 0 s m = false) := Lib.hid (by first | rfl | simp [leafB, hb])
   clear hL hb
   go_enter Tryz.func55, Tryz.ntmps55
   go_wp2_with (go_at_call 82; refine (HL.out _).mono ?_; rintro e w' ⟨rfl, rfl⟩)
   go_ret
   rw [HV.out]
   exact ⟨rfl, HE.out⟩
 ·have en : (n == 0) = false := beq_eq_false_iff_ne.2 hn
  have HV : Hid (leafB 2 n s m = false) := Lib.hid (by first | rfl | simp [leafB, hn])
  clear hn
  go_enter Tryz.func55, Tryz.ntmps55
  go_wp2_with fail
  go_ret
  rw [HV.out]
  exact ⟨rfl, HE.out⟩
set_option maxRecDepth 100000 in
set_option maxHeartbeats 4000000 in
theorem fine_k3 (w : World) (n : Int) (s : ByteArray) (q : Option Addr) (m c : Nat) (d : Int) (hs : s.size ≤ 1000000000) :
  Calls Tryz.prog 55 #[cellsV 3 n s (.slice q m c), .int .i64 d] w fun e w' => e = .returned (.bool (leafB 3 n s m)) ∧ Ext w w' := by
 have HE := Lib.hid ((Ext.refl w).alloc (.cells #[.int .i64 3, .int .i64 n, .string s, .slice q m c] 25))
 by_cases hz : s.size = 0
 ·obtain rfl := bytes_nil hz
  clear hz
  by_cases hm : m = 0
  ·subst hm
   have HV : Hid (leafB 3 n ⟨#[]⟩ 0 = true) := Lib.hid (by first | rfl | simp [leafB])
   go_enter Tryz.func55, Tryz.ntmps55
   go_wp2_with fail
   go_ret
   rw [HV.out]
   exact ⟨rfl, HE.out⟩
  ·have em : ((m : Int) == 0) = false := beq_eq_false_iff_ne.2 (by omega)
   have em2 : decide (m = 0) = false := decide_eq_false hm
   have HV : Hid (leafB 3 n ⟨#[]⟩ m = false) := Lib.hid (by first | rfl | simp [leafB, hm])
   clear hm
   go_enter Tryz.func55, Tryz.ntmps55
   go_wp2_with fail
   go_ret
   rw [HV.out]
   exact ⟨rfl, HE.out⟩
 ·obtain ⟨z1, z2, z3⟩ := str_some hz
  have HV : Hid (leafB 3 n s m = false) := Lib.hid (by first | rfl | simp [leafB, hz])
  clear hz
  go_enter Tryz.func55, Tryz.ntmps55
  go_wp2_with fail
  go_ret
  rw [HV.out]
  exact ⟨rfl, HE.out⟩
set_option maxRecDepth 100000 in
set_option maxHeartbeats 4000000 in
theorem fine_k4 (w : World) (n : Int) (s : ByteArray) (q : Option Addr) (m c : Nat) (d : Int) (hs : s.size ≤ 1000000000) :
  Calls Tryz.prog 55 #[cellsV 4 n s (.slice q m c), .int .i64 d] w fun e w' => e = .returned (.bool (leafB 4 n s m)) ∧ Ext w w' := by
 have HE := Lib.hid ((Ext.refl w).alloc (.cells #[.int .i64 4, .int .i64 n, .string s, .slice q m c] 25))
 by_cases hn : n = 0
 ·subst hn
  by_cases hm : m = 0
  ·subst hm
   have HV : Hid (leafB 4 0 s 0 = true) := Lib.hid (by first | rfl | simp [leafB])
   go_enter Tryz.func55, Tryz.ntmps55
   go_wp2_with fail
   go_ret
   rw [HV.out]
   exact ⟨rfl, HE.out⟩
  ·have em : ((m : Int) == 0) = false := beq_eq_false_iff_ne.2 (by omega)
   have em2 : decide (m = 0) = false := decide_eq_false hm
   have HV : Hid (leafB 4 0 s m = false) := Lib.hid (by first | rfl | simp [leafB, hm])
   clear hm
   go_enter Tryz.func55, Tryz.ntmps55
   go_wp2_with fail
   go_ret
   rw [HV.out]
   exact ⟨rfl, HE.out⟩
 ·have en : (n == 0) = false := beq_eq_false_iff_ne.2 hn
  have HV : Hid (leafB 4 n s m = false) := Lib.hid (by first | rfl | simp [leafB, hn])
  clear hn
  go_enter Tryz.func55, Tryz.ntmps55
  go_wp2_with fail
  go_ret
  rw [HV.out]
  exact ⟨rfl, HE.out⟩
set_option maxRecDepth 100000 in
set_option maxHeartbeats 4000000 in
theorem fine_other (w : World) (k n : Int) (s : ByteArray) (q : Option Addr) (m c : Nat) (d : Int) (h0 : ¬ k = 0) (h1 : ¬ k = 1) (h2 : ¬ k = 2) (h3 : ¬ k = 3) (h4 : ¬ k = 4) (h5 : ¬ k = 5) :
  Calls Tryz.prog 55 #[cellsV k n s (.slice q m c), .int .i64 d] w fun e w' => e = .returned (.bool (leafB k n s m)) ∧ Ext w w' := by
 have HE := Lib.hid ((Ext.refl w).alloc (.cells #[.int .i64 k, .int .i64 n, .string s, .slice q m c] 25))
 have HV : Hid (leafB k n s m = false) := Lib.hid (by simp [leafB, h0, h1, h2, h3, h4])
 have e0 : (k == 0) = false := beq_eq_false_iff_ne.2 h0
 have e1 : (k == 1) = false := beq_eq_false_iff_ne.2 h1
 have e2 : (k == 2) = false := beq_eq_false_iff_ne.2 h2
 have e3 : (k == 3) = false := beq_eq_false_iff_ne.2 h3
 have e4 : (k == 4) = false := beq_eq_false_iff_ne.2 h4
 have e5 : (k == 5) = false := beq_eq_false_iff_ne.2 h5
 clear h0 h1 h2 h3 h4 h5
 go_enter Tryz.func55, Tryz.ntmps55
 go_wp2_with fail
 go_ret
 rw [HV.out]
 exact ⟨rfl, HE.out⟩
theorem fine_leaf (w : World) (k n : Int) (s : ByteArray) (q : Option Addr) (m c : Nat) (d : Int) (hs : s.size ≤ 1000000000) (h5 : ¬ k = 5) :
  Calls Tryz.prog 55 #[cellsV k n s (.slice q m c), .int .i64 d] w fun e w' => e = .returned (.bool (leafB k n s m)) ∧ Ext w w' := by
 by_cases h0 : k = 0
 ·subst h0; exact fine_k0 w n s q m c d hs
 by_cases h1 : k = 1
 ·subst h1; exact fine_k1 w n s q m c d hs
 by_cases h2 : k = 2
 ·subst h2; exact fine_k2 w n s q m c d hs
 by_cases h3 : k = 3
 ·subst h3; exact fine_k3 w n s q m c d hs
 by_cases h4 : k = 4
 ·subst h4; exact fine_k4 w n s q m c d hs
 exact fine_other w k n s q m c d h0 h1 h2 h3 h4 h5
def SubFine (w : World) (q : Option Addr) (l : List Rep) (d : Nat) : Prop :=
 ∀ k (h : k < l.length), ∃ b o q9 n9 c9, q = some ⟨b, o, none⟩ ∧ CellsR w b (o + k * 4) l[k] (.slice q9 n9 c9) ∧
  ∀ W, Ext w W → Calls Tryz.prog 55 #[cellsV l[k].k l[k].n l[k].s (.slice q9 n9 c9), .int .i64 (d : Int)] W fun e w' => e = .returned (.bool (fineR d l[k])) ∧ Ext W w'
theorem fineE_at {d : Nat} {l : List Rep} {j : Nat} (hj : j < l.length) (h : fineR d l[j] = false) : fineL d l = false := by
 rw [fineL_all, List.all_eq_false]
 exact ⟨l[j], List.getElem_mem hj, by simp [h]⟩
theorem fineL_of {d : Nat} {l : List Rep} (h : ∀ j (hj : j < l.length), fineR d l[j] = true) : fineL d l = true := by
 rw [fineL_all, List.all_eq_true]
 intro x hx
 obtain ⟨j, hj, rfl⟩ := List.getElem_of_mem hx
 exact h j hj
set_option maxRecDepth 100000 in
set_option maxHeartbeats 4000000 in
theorem fine_list_no (w : World) (n : Int) (s : ByteArray) (q : Option Addr) (m c : Nat) (d : Int) (h : ¬ n = 0 ∨ ¬ s.size = 0 ∨ d = 0) :
  Calls Tryz.prog 55 #[cellsV 5 n s (.slice q m c), .int .i64 d] w fun e w' => e = .returned (.bool false) ∧ Ext w w' := by
 have HE := Lib.hid ((Ext.refl w).alloc (.cells #[.int .i64 5, .int .i64 n, .string s, .slice q m c] 25))
 have HV : Hid (false = false) := Lib.hid rfl
 by_cases hn : n = 0
 ·subst hn
  by_cases hz : s.size = 0
  ·obtain rfl := bytes_nil hz
   obtain rfl : d = 0 := by
    rcases h with h | h | h
    ·exact absurd rfl h
    ·exact absurd rfl h
    ·exact h
   clear h hz
   go_enter Tryz.func55, Tryz.ntmps55
   go_wp2_with fail
   go_ret
   exact ⟨rfl, HE.out⟩
  ·obtain ⟨z1, z2, z3⟩ := str_some hz
   clear h hz
   go_enter Tryz.func55, Tryz.ntmps55
   go_wp2_with fail
   go_ret
   exact ⟨rfl, HE.out⟩
 ·have en : (n == 0) = false := beq_eq_false_iff_ne.2 hn
  have en2 : (n != 0) = true := bne_iff_ne.2 hn
  clear h hn
  go_enter Tryz.func55, Tryz.ntmps55
  go_wp2_with fail
  go_ret
  exact ⟨rfl, HE.out⟩
set_option maxRecDepth 100000 in
set_option maxHeartbeats 4000000 in
theorem fine_list (w : World) (q : Option Addr) (c : Nat) (l : List Rep) (d : Nat) (E : Int) (hE : E = (d : Int) + 1) (hd : d ≤ 1000) (hmax : l.length ≤ 1000000000) (hsub : SubFine w q l d) :
  Calls Tryz.prog 55 #[cellsV 5 0 ⟨#[]⟩ (.slice q l.length c), .int .i64 E] w fun e w' => e = .returned (.bool (fineL d l)) ∧ Ext w w' := by
 have HE := Lib.hid ((Ext.refl w).alloc (.cells #[.int .i64 5, .int .i64 0, .string ⟨#[]⟩, .slice q l.length c] 25))
 have HX := Lib.hid (Blk.new w 25 #[.int .i64 5, .int .i64 0, .string ⟨#[]⟩, .slice q l.length c])
 have HS : Hid (∀ k (h : k < l.length), ∃ b o q9 n9 c9, q = some ⟨b, o, none⟩ ∧ CellsR w b (o + k * 4) l[k] (.slice q9 n9 c9) ∧
  ∀ W, Ext w W → Calls Tryz.prog 55 #[cellsV l[k].k l[k].n l[k].s (.slice q9 n9 c9), .int .i64 (E - 1)] W fun e w' => e = .returned (.bool (fineR d l[k])) ∧ Ext W w') := Lib.hid (by
  rw [show E - 1 = (d : Int) by omega]
  exact hsub)
 have e0 : (E == 0) = false := beq_eq_false_iff_ne.2 (by omega)
 have E1 : 1 ≤ E := by omega
 have E2 : E ≤ 1001 := by omega
 clear hsub hE
 go_enter Tryz.func55, Tryz.ntmps55
 go_wp2_with fail
 clear e0
 generalize w.alloc (.cells #[.int .i64 5, .int .i64 0, .string ⟨#[]⟩, .slice q l.length c] 25) = w0 at HE HX ⊢
 go_loopw [5] (fun v5 wr => ∃ j : Nat, v5 = .int .i64 j ∧ j ≤ l.length ∧ Hid (Ext w0 wr) ∧ Hid (∀ i (hi : i < l.length), i < j → fineR d l[i] = true)) (fun v5 _ => l.length - (intOf v5).toNat)
 case atStart => exact ⟨0, rfl, Nat.zero_le _, Lib.hid (Ext.refl w0), Lib.hid (fun i _ h => absurd h (by omega))⟩
 case round =>
  obtain ⟨j, rfl, hj, HR, HA⟩ := hrel
  have x3 := (HX.out.ext HR.out).cell 3
  simp only [List.getElem?_toArray, List.getElem?_cons_zero, List.getElem?_cons_succ] at x3
  by_cases hlt : j < l.length
  ·obtain ⟨b, o, q9, n9, c9, rfl, hc, hs⟩ := HS.out j hlt
   obtain ⟨p0, p1, p2, p3⟩ := hc.ext (HE.out.trans HR.out)
   have HNO : Hid (fineR d l[j] = false → fineL d l = false) := Lib.hid (fineE_at hlt)
   have HYE : Hid (fineR d l[j] = true → ∀ i (hi : i < l.length), i < j + 1 → fineR d l[i] = true) := Lib.hid (fun h i hi hij => by
    rcases Nat.lt_or_ge i j with h' | h'
    ·exact HA.out i hi h'
    ·obtain rfl : i = j := by omega
     exact h)
   have HC := Lib.hid (hs wr (HE.out.trans HR.out))
   generalize l[j] = x at p0 p1 p2 p3 HC HNO HYE
   have k0 : (0 : Int) ≤ (j : Int) := by omega
   have k1 : (j : Int) < (l.length : Int) := by omega
   clear hc hs
   go_wp2_with fail
   refine HC.out.mono ?_
   rintro e w1 ⟨rfl, e1⟩
   have HR2 := Lib.hid (HR.out.trans e1)
   clear e1 HC p0 p1 p2 p3 x3
   cases hb : fineR d x with
   | true =>
    have HA2 := Lib.hid (HYE.out hb)
    clear HYE HNO hb
    go_wp2_with fail
    go_roundw
    case rel => exact ⟨j + 1, by go_num, by omega, HR2, HA2⟩
    case measure => simp [intOf]; omega
   | false =>
    have HN := Lib.hid (HNO.out hb)
    clear HYE HNO hb
    go_wp2_with fail
    go_ret
    rw [HN.out]
    exact ⟨rfl, HE.out.trans HR2.out⟩
  ·obtain rfl : j = l.length := by omega
   have HT := Lib.hid (fineL_of (d := d) (l := l) (fun i hi => HA.out i hi hi))
   go_wp2_with fail
   go_ret
   rw [HT.out]
   exact ⟨rfl, HE.out.trans HR.out⟩
theorem fine_five (d : Nat) (x : Rep) (h : x.k = 5) : fineR d x = match d with | 0 => false | d + 1 => x.n == 0 && x.s.size == 0 && fineL d x.l := by
 cases x with
 | mk k n s l =>
  have h5 : k = 5 := h
  subst h5
  simp only [fineR, Rep.n, Rep.s, Rep.l]
  rw [if_neg (by decide), if_neg (by decide), if_neg (by decide), if_neg (by decide), if_pos trivial]
  cases d <;> rfl
theorem fine_any : ∀ (D : Nat) (ok : Nat → Prop) (w : World) (x : Rep) (lv : Value) (d : Nat), ListAt ok w D lv x.l → itR x ≤ 1000000000 → txR x ≤ 1000000000 → d ≤ 1000 →
  Calls Tryz.prog 55 #[cellsV x.k x.n x.s lv, .int .i64 (d : Int)] w fun e w' => e = .returned (.bool (fineR d x)) ∧ Ext w w' := by
 intro D
 induction D with
 | zero =>
  intro ok w x lv d hx hI hT hd
  obtain ⟨q, c, rfl⟩ := hx.slice
  have h0 : x.l = [] := hx.1
  have e2 : txR x = x.s.size + txL x.l := by cases x; simp only [txR, Rep.l, Rep.s]
  by_cases h5 : x.k = 5
  ·rw [fine_five d x h5, h5]
   cases d with
   | zero => exact fine_list_no w x.n x.s q _ c 0 (.inr (.inr rfl))
   | succ d =>
    show Calls Tryz.prog 55 _ w fun e w' => e = .returned (.bool (x.n == 0 && x.s.size == 0 && fineL d x.l)) ∧ Ext w w'
    by_cases hg : ¬ x.n = 0 ∨ ¬ x.s.size = 0
    ·have e : (x.n == 0 && x.s.size == 0 && fineL d x.l) = false := by
      rcases hg with hg | hg
      ·rw [beq_eq_false_iff_ne.2 hg]; rfl
      ·rw [beq_eq_false_iff_ne.2 hg, Bool.and_false]; rfl
     rw [e]
     exact fine_list_no w x.n x.s q _ c _ (hg.elim .inl (fun h => .inr (.inl h)))
    ·have hn : x.n = 0 := Classical.byContradiction (fun h => hg (.inl h))
     have hz : x.s.size = 0 := Classical.byContradiction (fun h => hg (.inr h))
     have e : (x.n == 0 && x.s.size == 0 && fineL d x.l) = fineL d x.l := by rw [hn, hz]; rfl
     rw [e, hn, bytes_nil hz]
     exact fine_list w q c x.l d _ (by omega) (by omega) (by rw [h0]; simp) (fun k hk => by rw [h0] at hk; simp at hk)
  ·rw [fine_leafB d x h5]
   exact fine_leaf w x.k x.n x.s q _ c d (by omega) h5
 | succ D ih =>
  intro ok w x lv d hx hI hT hd
  obtain ⟨q, c, rfl, hx'⟩ := list_at hx
  have e1 : itR x = x.l.length + itL x.l := by cases x; simp only [itR, Rep.l]
  have e2 : txR x = x.s.size + txL x.l := by cases x; simp only [txR, Rep.l, Rep.s]
  by_cases h5 : x.k = 5
  ·rw [fine_five d x h5, h5]
   cases d with
   | zero => exact fine_list_no w x.n x.s q _ c 0 (.inr (.inr rfl))
   | succ d =>
    show Calls Tryz.prog 55 _ w fun e w' => e = .returned (.bool (x.n == 0 && x.s.size == 0 && fineL d x.l)) ∧ Ext w w'
    by_cases hg : ¬ x.n = 0 ∨ ¬ x.s.size = 0
    ·have e : (x.n == 0 && x.s.size == 0 && fineL d x.l) = false := by
      rcases hg with hg | hg
      ·rw [beq_eq_false_iff_ne.2 hg]; rfl
      ·rw [beq_eq_false_iff_ne.2 hg, Bool.and_false]; rfl
     rw [e]
     exact fine_list_no w x.n x.s q _ c _ (hg.elim .inl (fun h => .inr (.inl h)))
    ·have hn : x.n = 0 := Classical.byContradiction (fun h => hg (.inl h))
     have hz : x.s.size = 0 := Classical.byContradiction (fun h => hg (.inr h))
     have e : (x.n == 0 && x.s.size == 0 && fineL d x.l) = fineL d x.l := by rw [hn, hz]; rfl
     rw [e, hn, bytes_nil hz]
     refine fine_list w q c x.l d _ (by omega) (by omega) (by omega) (fun k hk => ?_)
     obtain ⟨b, o, lv, f1, f2, f3⟩ := hx' k hk
     obtain ⟨q9, c9, rfl⟩ := f3.slice
     have h1 := it_at x.l k hk
     have h2 := tx_take x.l (k + 1)
     have h3 := tx_next x.l k hk
     exact ⟨b, o, q9, _, c9, f1, f2, fun W hW => ih ok W _ _ d (f3.ext hW) (by omega) (by omega) (by omega)⟩
  ·rw [fine_leafB d x h5]
   exact fine_leaf w x.k x.n x.s q _ c d (by omega) h5
/-! ### Check -/
set_option maxRecDepth 100000 in
set_option maxHeartbeats 4000000 in
theorem chkD_any (D : Nat) (ok : Nat → Prop) (w : World) (x : Rep) (q : Option Addr) (c : Nat) (hx : ListAt ok w D (.slice q x.l.length c) x.l) (hI : itR x ≤ 65536) (hT : txR x ≤ 1048576) :
  Calls Tryz.prog 37 #[cellsV x.k x.n x.s (.slice q x.l.length c)] w fun e w' => e = .returned (.int .i64 (if fineR 100 x = true then 0 else 2)) ∧ Ext w w' := by
 have HE := Lib.hid ((Ext.refl w).alloc (.cells #[.int .i64 x.k, .int .i64 x.n, .string x.s, .slice q x.l.length c] 25))
 have HX := Lib.hid (Blk.new w 25 #[.int .i64 x.k, .int .i64 x.n, .string x.s, .slice q x.l.length c])
 have CS : Hid (∀ W, Ext w W → Calls Tryz.prog 54 #[cellsV x.k x.n x.s (.slice q x.l.length c), .int .i64 0, .int .i64 0] W fun e w' => e = .returned (.tuple #[.int .i64 (itR x : Int), .int .i64 (txR x : Int)]) ∧ Ext W w') := Lib.hid (fun W hW => by
  have := sizes_any D ok W x _ 0 0 (hx.ext hW) (by omega) (by omega)
  rwa [Nat.zero_add, Nat.zero_add] at this)
 have CF : Hid (∀ W, Ext w W → Calls Tryz.prog 55 #[cellsV x.k x.n x.s (.slice q x.l.length c), .int .i64 100] W fun e w' => e = .returned (.bool (fineR 100 x)) ∧ Ext W w') := Lib.hid (fun W hW => fine_any D ok W x _ 100 (hx.ext hW) (by omega) (by omega) (by omega))
 clear hx
 generalize fineR 100 x = f at CF ⊢
 generalize itR x = ix at hI CS
 generalize txR x = tx at hT CS
 have d1 : decide ((65536 : Int) < (ix : Int)) = false := decide_eq_false (by omega)
 have d1n : decide (65536 < ix) = false := decide_eq_false (by omega)
 have d2 : decide ((1048576 : Int) < (tx : Int)) = false := decide_eq_false (by omega)
 have d2n : decide (1048576 < tx) = false := decide_eq_false (by omega)
 go_enter Tryz.func37, Tryz.ntmps37
 go_wp2_with fail
 generalize w.alloc (.cells #[.int .i64 x.k, .int .i64 x.n, .string x.s, .slice q x.l.length c] 25) = w0 at HE HX ⊢
 refine (CS.out w0 HE.out).mono ?_
 rintro e w1 ⟨rfl, e1⟩
 have X1 := HX.out.ext e1
 have x0 := X1.cell 0
 have x1 := X1.cell 1
 have x2 := X1.cell 2
 have x3 := X1.cell 3
 simp only [List.getElem?_toArray, List.getElem?_cons_zero, List.getElem?_cons_succ] at x0 x1 x2 x3
 have HE1 := Lib.hid (HE.out.trans e1)
 clear e1 X1 CS
 go_wp2_with fail
 refine (CF.out w1 HE1.out).mono ?_
 rintro e w2 ⟨rfl, e2⟩
 have HE2 := Lib.hid (HE1.out.trans e2)
 clear e2 CF x0 x1 x2 x3
 cases f
 all_goals
  go_wp2_with fail
  go_ret
  exact ⟨rfl, HE2.out⟩
end Go.Proofs.YtlfihdcgbhdajaaGreatDoor
