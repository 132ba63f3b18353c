/- Words: a text's words, in the document. -/
import Derived.Test.YthknpnhiijbgfaaDoorWdV
namespace Go.Proofs.YthknpnhiijbgfaaDoor
open Go.RowKit
set_option linter.unusedVariables false
set_option linter.unusedSimpArgs false

theorem map_words (r : Except Nat (List Wd)) (ws : List Wd) (x : Wd) : (r.map fun y => x :: y).map (fun y => ws ++ y) = r.map fun y => (ws ++ [x]) ++ y := by
  cases r with
  | error e => rfl
  | ok y => simp [Except.map]
theorem map_id_words (r : Except Nat (List Wd)) : (r.map fun y => [] ++ y) = r := by cases r <;> rfl
set_option maxRecDepth 100000 in
set_option maxHeartbeats 1000000 in
theorem rlex_long (w : World) (s : ByteArray) (h : 1048576 < s.size) : Calls Tryd.prog 11 #[.string s] w fun e w' => e = .returned (.tuple #[.slice none 0 0, .int .i64 0, .int .i64 3]) ∧ Ext w w' := by
  have d1 : decide ((1048576 : Int) < (s.size : Int)) = true := decide_eq_true (by omega)
  have d1n : decide (1048576 < s.size) = true := decide_eq_true h
  go_enter Tryd.func11, Tryd.ntmps11
  go_wp2_with fail
  go_ret3
  exact ⟨rfl, Ext.refl _⟩
set_option maxRecDepth 100000 in
set_option maxHeartbeats 4000000 in
theorem rlex_any (w : World) (s : ByteArray) (hs : s.size ≤ 1048576) : Calls Tryd.prog 11 #[.string s] w (LexRes w s.data.toList) := by
  obtain ⟨n, hn⟩ : ∃ n, s.size = n := ⟨_, rfl⟩
  obtain ⟨l, hL⟩ : ∃ l, s.data.toList = l := ⟨_, rfl⟩
  have hll : l.length = n := by rw [← hL]; exact hn
  rw [hL]
  have HL := Lib.hid hL
  have HLL := Lib.hid hll
  have HN := Lib.hid hn
  have d0 : decide ((1048576 : Int) < (s.size : Int)) = false := decide_eq_false (by omega)
  have d0n : decide (1048576 < s.size) = false := decide_eq_false (by omega)
  have hb0 := blank_le l
  clear hL hll
  go_enter Tryd.func11, Tryd.ntmps11
  go_wp2_with fail
  refine (rblank_any _ s 0 (by omega) (by omega)).mono ?_
  rintro e w' ⟨rfl, rfl⟩
  rw [HL.out, List.drop_zero, Nat.zero_add]
  obtain ⟨k0, hk0⟩ : ∃ k0, blankS false l = k0 := ⟨_, rfl⟩
  rw [hk0] at hb0 ⊢
  have HK0 : Hid (lexS l = lexP k0 (l.drop k0)) := Lib.hid (by unfold lexS; rw [hk0])
  have hk0n : k0 ≤ n := by have := HLL.out; omega
  clear hb0 hk0
  go_wp2_with fail
  go_loopw [5, 6] (fun v5 v6 wr => ∃ (k : Nat) (v : Value) (ws : List Wd), v6 = .int .i64 (k : Int) ∧ v = v5 ∧ k ≤ n ∧ ws.length ≤ k ∧ Hid (Ext w wr) ∧ Hid (OwnW wr w.heap.size v ws) ∧ Hid (lexS l = (lexP k (l.drop k)).map fun y => ws ++ y)) (fun _ v6 _ => n - (intOf v6).toNat)
  case atStart => exact ⟨k0, _, [], rfl, rfl, hk0n, by simp, Lib.hid (Ext.refl _), Lib.hid (OwnW.nil _ _), Lib.hid (by rw [map_id_words]; exact HK0.out)⟩
  case round =>
    obtain ⟨k, v, ws, rfl, rfl, hk, hwl, HE, HO, HK⟩ := hrel
    by_cases hkn : k < n
    · have d1 : decide ((k : Int) < (s.size : Int)) = true := decide_eq_true (by omega)
      have d1n : decide (k < s.size) = true := decide_eq_true (by omega)
      go_wp2_with fail
      refine (rword_any _ s k (by omega) (by omega)).mono ?_
      rintro e w1 ⟨rfl, he1⟩
      rw [HL.out]
      have HE1 : Hid (Ext wr w1) := Lib.hid he1
      clear he1
      have HNE : Hid (l.drop k ≠ []) := Lib.hid (by intro e; have h := congrArg List.length e; rw [List.length_drop, HLL.out] at h; simp at h; omega)
      obtain ⟨y, hy⟩ : ∃ y, wordP (l.drop k) = y := ⟨_, rfl⟩
      rw [hy]
      have HY := Lib.hid hy
      clear hy
      cases y with
      | none =>
        have HRR : Hid (lexS l = .error k) := Lib.hid (by rw [HK.out, lexP_none HNE.out HY.out]; rfl)
        have HEW : Hid (Ext w (w1.alloc (.cells #[.int .i64 0, .string ⟨#[]⟩, .int .i64 0, .int .i64 0] 31))) := Lib.hid ((HE.out.trans HE1.out).alloc _)
        simp only [rwrdV, wdV]
        go_wp2_with fail
        go_ret3
        unfold LexRes
        rw [HRR.out]
        exact ⟨HEW.out, rfl⟩
      | some x =>
        obtain ⟨x, m⟩ := x
        have hmay := word_may HY.out
        have hm1 : 1 ≤ m := hmay.2.2.1
        have hmk : k + m ≤ n := by have h1 := hmay.2.2.2.1; rw [List.length_drop, HLL.out] at h1; omega
        have hlx := lexP_word (a := k) HNE.out HY.out hm1
        obtain ⟨j, hj⟩ : ∃ j, k + m = j := ⟨_, rfl⟩
        have hj0 : ((j : Int) == 0) = false := by rw [beq_eq_false_iff_ne]; omega
        have hjn : j ≤ s.size := by omega
        have hj1 : k + 1 ≤ j := by omega
        have hO2 : OwnW (w1.alloc (.cells #[.int .i64 x.k, .string ⟨x.t.toArray⟩, .int .i64 x.n, .int .i64 (k : Int)] 31)) w.heap.size v ws := HO.out.ext (HE1.out.alloc _)
        have hWs : w.heap.size ≤ (w1.alloc (.cells #[.int .i64 x.k, .string ⟨x.t.toArray⟩, .int .i64 x.n, .int .i64 (k : Int)] 31)).heap.size := by have h1 := HE.out.le; have h2 := HE1.out.le; rw [size_alloc]; omega
        obtain ⟨gg, cap, W2, hrun, happ⟩ := app_word (w1.alloc (.cells #[.int .i64 x.k, .string ⟨x.t.toArray⟩, .int .i64 x.n, .int .i64 (k : Int)] 31)) 23 w.heap.size v ws { x with a := k } hO2 hWs (by omega)
        rw [size_alloc] at hrun
        have HRUN : Hid ((Builtin.append_ #[23, 23] 23 #[v, .slice (some ⟨w1.heap.size + 1, 0, none⟩) 1 1]).run Tryd.prog ((w1.alloc (.cells #[.int .i64 x.k, .string ⟨x.t.toArray⟩, .int .i64 x.n, .int .i64 (k : Int)] 31)).alloc (.cells #[.int .i64 x.k, .string ⟨x.t.toArray⟩, .int .i64 x.n, .int .i64 (k : Int)] 31)) = .ok (.slice (some ⟨gg, 0, none⟩) (ws.length + 1) cap) W2) := Lib.hid hrun
        have HE2 : Hid (Ext w W2) := Lib.hid ((((HE.out.trans HE1.out).alloc _).alloc _).grown happ.grow happ.row)
        have HA := Lib.hid happ
        have HLX := Lib.hid hlx
        have HJ := Lib.hid hj
        have hbl := blank_le (l.drop j)
        rw [List.length_drop, HLL.out] at hbl
        obtain ⟨z, hz⟩ : ∃ z, blankS false (l.drop j) = z := ⟨_, rfl⟩
        rw [hz] at hbl
        have HZ := Lib.hid hz
        have HK2 : Hid (lexS l = (lexP (j + z) (l.drop (j + z))).map fun y => (ws ++ [({ x with a := k } : Wd)]) ++ y) := Lib.hid (by
          rw [HK.out, hlx, map_words, List.drop_drop, hj, hz, List.drop_drop, ← Nat.add_assoc, hj])
        simp only [rwrdV, wdV]
        rw [hj]
        clear hlx hj hrun happ hO2 hWs hz hmay
        go_wp2_with (at_builtin; refine wpList_append_run rfl _ _ 23 rfl _ _ _ _ rfl rfl HRUN.out ?_)
        refine (rblank_any _ s j hjn (by omega)).mono ?_
        rintro e w' ⟨rfl, rfl⟩
        rw [HL.out, HZ.out]
        go_wp2_with fail
        go_roundw
        case rel => exact ⟨j + z, _, ws ++ [{ x with a := k }], rfl, rfl, by omega, by simp; omega, HE2, Lib.hid (by have h := HA.out.own; unfold OwnW at h ⊢; simpa using h), HK2⟩
        case measure => simp [intOf]; omega
    · obtain rfl : k = n := by omega
      have d1 : decide ((k : Int) < (s.size : Int)) = false := decide_eq_false (by omega)
      have d1n : decide (k < s.size) = false := decide_eq_false (by omega)
      have HRR : Hid (lexS l = .ok ws) := Lib.hid (by rw [HK.out, List.drop_eq_nil_of_le (by have := HLL.out; omega), lexP_nil]; simp [Except.map])
      go_wp2_with fail
      go_ret3
      unfold LexRes
      rw [HRR.out]
      exact ⟨HE.out, _, rfl, HO.out⟩
end Go.Proofs.YthknpnhiijbgfaaDoor
