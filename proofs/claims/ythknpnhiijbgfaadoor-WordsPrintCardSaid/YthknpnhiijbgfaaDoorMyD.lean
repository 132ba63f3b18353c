/- Words: the same words, in the program. -/
import Derived.Test.YthknpnhiijbgfaaDoorMyB
namespace Go.Proofs.YthknpnhiijbgfaaDoor
open Go.RowKit
set_option linter.unusedVariables false
set_option linter.unusedSimpArgs false

theorem alike_len : ∀ (l m : List Wd), alikeL l m = true → l.length = m.length
  | [], [], _ => rfl
  | [], _ :: _, h => by cases h
  | _ :: _, [], h => by cases h
  | a :: l, b :: m, h => by
    simp only [alikeL, Bool.and_eq_true] at h
    rw [List.length_cons, List.length_cons, alike_len l m h.2]
theorem alike_drop (l m : List Wd) (k : Nat) (h : k < l.length) (h' : k < m.length) : alikeL (l.drop k) (m.drop k) = (alikeW l[k] m[k] && alikeL (l.drop (k + 1)) (m.drop (k + 1))) := by
  rw [List.drop_eq_getElem_cons h, List.drop_eq_getElem_cons h']
  rfl
theorem cell_lt0 {w : World} {b o : Nat} {v : Value} (h : w.cell? ⟨b, o, none⟩ = some v) : b < w.heap.size := by
  rcases Nat.lt_or_ge b w.heap.size with h1 | h1
  · exact h1
  · simp [World.cell?, Array.getElem?_eq_none h1] at h
set_option maxRecDepth 100000 in
set_option maxHeartbeats 1000000 in
theorem alike_any (w : World) (x y : Wd) : Calls Tryd.prog 31 #[.agg #[.int .i64 x.k, .string ⟨x.t.toArray⟩, .int .i64 x.n, .int .i64 x.a], .agg #[.int .i64 y.k, .string ⟨y.t.toArray⟩, .int .i64 y.n, .int .i64 y.a]] w fun e w' => e = .returned (.bool (alikeW x y)) ∧ Ext w w' := by
  obtain ⟨k, t, n, a⟩ := x
  obtain ⟨k', t', n', a'⟩ := y
  obtain ⟨r, hr⟩ : ∃ r, alikeW ⟨k, t, n, a⟩ ⟨k', t', n', a'⟩ = r := ⟨_, rfl⟩
  obtain ⟨T, hT⟩ : ∃ T : ByteArray, ⟨t.toArray⟩ = T := ⟨_, rfl⟩
  obtain ⟨T', hT'⟩ : ∃ T' : ByteArray, ⟨t'.toArray⟩ = T' := ⟨_, rfl⟩
  have HTT : Hid ((T.toList == T'.toList) = decide (t = t')) := Lib.hid (by
    rw [← hT, ← hT', Lib.toList_data, Lib.toList_data, Bool.eq_iff_iff]; simp)
  rw [hr]
  dsimp only
  rw [hT, hT']
  have HR := Lib.hid hr
  clear hr hT hT'
  have HE : Hid (∀ o o', Ext w ((w.alloc o).alloc o')) := Lib.hid fun o o' => ((Ext.refl w).alloc o).alloc o'
  by_cases h1 : k = k'
  · subst h1
    by_cases h2 : t = t'
    · have e2 : (T.toList == T'.toList) = true := by rw [HTT.out]; exact decide_eq_true h2
      by_cases h3 : n = n'
      · subst h3
        have HB : Hid (r = true) := Lib.hid (by rw [← HR.out]; simp [alikeW, h2])
        clear h2
        go_enter Tryd.func31, Tryd.ntmps31
        go_wp2_with fail
        go_ret
        exact ⟨ret_of (bool_eq HB.out.symm), HE.out _ _⟩
      · have e3 : (n == n') = false := by rw [beq_eq_false_iff_ne]; exact h3
        have HB : Hid (r = false) := Lib.hid (by rw [← HR.out]; simp [alikeW, h3])
        clear h2 h3
        go_enter Tryd.func31, Tryd.ntmps31
        go_wp2_with fail
        go_ret
        exact ⟨ret_of (bool_eq HB.out.symm), HE.out _ _⟩
    · have e2 : (T.toList == T'.toList) = false := by rw [HTT.out]; exact decide_eq_false h2
      have HB : Hid (r = false) := Lib.hid (by rw [← HR.out]; simp [alikeW, h2])
      clear h2
      go_enter Tryd.func31, Tryd.ntmps31
      go_wp2_with fail
      go_ret
      exact ⟨ret_of (bool_eq HB.out.symm), HE.out _ _⟩
  · have e1 : (k == k') = false := by rw [beq_eq_false_iff_ne]; exact h1
    have HB : Hid (r = false) := Lib.hid (by rw [← HR.out]; simp [alikeW, h1])
    clear h1
    go_enter Tryd.func31, Tryd.ntmps31
    go_wp2_with fail
    go_ret
    exact ⟨ret_of (bool_eq HB.out.symm), HE.out _ _⟩
set_option maxRecDepth 100000 in
set_option maxHeartbeats 2000000 in
theorem equal_any (w : World) (v u : Value) (l m : List Wd) (hv : WordsAt w v l) (hu : WordsAt w u m) (hlen : l.length ≤ 9223372036854775806) (hlen' : m.length ≤ 9223372036854775806) :
    Calls Tryd.prog 30 #[v, u, .func (.func 31) #[] #[]] w fun e w' => e = .returned (.bool (alikeL l m)) ∧ Ext w w' := by
  obtain ⟨q, c, rfl, hx⟩ := hv
  obtain ⟨q', c', rfl, hy⟩ := hu
  have HX := Lib.hid hx
  have HY := Lib.hid hy
  clear hx hy
  obtain ⟨r, hr⟩ : ∃ r, alikeL l m = r := ⟨_, rfl⟩
  rw [hr]
  have HR := Lib.hid hr
  clear hr
  by_cases hl : l.length = m.length
  · obtain ⟨n, hn⟩ : ∃ n, l.length = n := ⟨_, rfl⟩
    have hn' : m.length = n := by omega
    rw [hn] at hlen ⊢
    rw [hn']
    have HN := Lib.hid hn
    have HM := Lib.hid hn'
    have hne : ((n : Int) != (n : Int)) = false := by simp
    clear hl hlen' hn hn'
    go_enter Tryd.func30, Tryd.ntmps30
    go_wp2_with fail
    go_loopw [17] (fun i wr => ∃ k : Nat, k ≤ n ∧ i = .int .i64 k ∧ Hid (alikeL (l.drop k) (m.drop k) = r) ∧ Hid (Ext w wr)) (fun i _ => n - (intOf i).toNat)
    case atStart => exact ⟨0, Nat.zero_le _, rfl, HR, Lib.hid (Ext.refl w)⟩
    case round =>
      obtain ⟨k, hk, rfl, HK, HE⟩ := hrel
      by_cases hlt : k < n
      · have kl : k < l.length := by rw [HN.out]; exact hlt
        have km : k < m.length := by rw [HM.out]; exact hlt
        obtain ⟨b, o, rfl, hx⟩ := HX.out (by omega)
        obtain ⟨b', o', rfl, hy⟩ := HY.out (by omega)
        have hxk := hx k kl
        have hyk := hy k km
        have hd := alike_drop l m k kl km
        rw [HK.out] at hd
        obtain ⟨x, hx'⟩ : ∃ x, l[k] = x := ⟨_, rfl⟩
        obtain ⟨y, hy'⟩ : ∃ y, m[k] = y := ⟨_, rfl⟩
        rw [hx'] at hxk hd
        rw [hy'] at hyk hd
        have cx0 := cell_of_ext hxk.1 HE.out
        have cx1 := cell_of_ext hxk.2.1 HE.out
        have cx2 := cell_of_ext hxk.2.2.1 HE.out
        have cx3 := cell_of_ext hxk.2.2.2 HE.out
        have cy0 := cell_of_ext hyk.1 HE.out
        have cy1 := cell_of_ext hyk.2.1 HE.out
        have cy2 := cell_of_ext hyk.2.2.1 HE.out
        have cy3 := cell_of_ext hyk.2.2.2 HE.out
        have lx := cell_lt0 cx0
        have ly := cell_lt0 cy0
        have k0 : (0 : Int) ≤ (k : Int) := by omega
        have k1 : (k : Int) < (n : Int) := by omega
        have HD := Lib.hid hd
        clear hx hy hxk hyk hx' hy' kl km hd
        obtain ⟨z, hz⟩ : ∃ z, alikeW x y = z := ⟨_, rfl⟩
        have hdd := HD.out
        rw [hz] at hdd
        have HZ := Lib.hid hz
        clear hz HD
        cases z
        · have hrr : r = false := hdd
          clear hdd
          subst hrr
          go_wp2_with fail
          refine (alike_any _ x y).mono ?_
          rintro e w1 ⟨rfl, he⟩
          have HE1 := Lib.hid (((HE.out.alloc _).alloc _).trans he)
          clear he
          rw [HZ.out]
          go_wp2_with fail
          go_ret
          exact ⟨rfl, HE1.out⟩
        · have HD : Hid (alikeL (l.drop (k + 1)) (m.drop (k + 1)) = r) := Lib.hid (by rw [hdd, Bool.true_and])
          clear hdd
          go_wp2_with fail
          refine (alike_any _ x y).mono ?_
          rintro e w1 ⟨rfl, he⟩
          have HE1 := Lib.hid (((HE.out.alloc _).alloc _).trans he)
          clear he
          rw [HZ.out]
          go_wp2_with fail
          go_roundw
          case rel => exact ⟨k + 1, hlt, by go_num, HD, HE1⟩
          case measure => simp [intOf]; omega
      · obtain rfl : k = n := by omega
        have hrr : r = true := by
          have h := HK.out
          rw [List.drop_eq_nil_of_le (by rw [HN.out]; exact Nat.le_refl _), List.drop_eq_nil_of_le (by rw [HM.out]; exact Nat.le_refl _)] at h
          exact h.symm
        subst hrr
        go_wp2_with fail
        go_ret
        exact ⟨rfl, HE.out⟩
  · have hrr : r = false := by
      cases r
      · rfl
      · exact absurd (alike_len l m HR.out) hl
    subst hrr
    have hne : ((l.length : Int) != (m.length : Int)) = true := by simpa using (by omega : ¬ (l.length : Int) = m.length)
    go_enter Tryd.func30, Tryd.ntmps30
    go_wp2_with fail
    go_ret
    exact ⟨rfl, Ext.refl w⟩
set_option maxRecDepth 100000 in
theorem same_any (w : World) (v u : Value) (l m : List Wd) (hv : WordsAt w v l) (hu : WordsAt w u m) (hlen : l.length ≤ 9223372036854775806) (hlen' : m.length ≤ 9223372036854775806) :
    Calls Tryd.prog 15 #[v, u] w fun e w' => e = .returned (.bool (alikeL l m)) ∧ Ext w w' := by
  have hi := equal_any w v u l m hv hu hlen hlen'
  have HI := Lib.hid hi
  clear hi hu hv
  go_enter Tryd.func15, Tryd.ntmps15
  go_wp2_with fail
  refine HI.out.mono ?_
  rintro e w1 ⟨rfl, he⟩
  have HE := Lib.hid he
  clear he
  go_wp2_with fail
  go_ret
  exact ⟨rfl, HE.out⟩
end Go.Proofs.YthknpnhiijbgfaaDoor
