/- Small functions over a program's parts: how many instructions; how code ends; texts that are too long. -/
import Derived.Test.YtifabbjgbfpfbaaDoorCodD
namespace Go.Proofs.YtifabbjgbfpfbaaDoor
open Go.RowKit
set_option linter.unusedVariables false
set_option linter.unusedSimpArgs false

def cntTo (l : List Pr) (k : Nat) : Nat := ((l.take k).map fun f => f.cd.length).sum
theorem cnt_zero (l : List Pr) : cntTo l 0 = 0 := rfl
theorem cnt_succ (l : List Pr) (k : Nat) (h : k < l.length) : cntTo l (k + 1) = cntTo l k + l[k].cd.length := by
  unfold cntTo
  rw [List.take_succ_eq_append_getElem h]
  simp only [List.map_append, List.map_cons, List.map_nil, List.sum_append, List.sum_cons, List.sum_nil, Nat.add_zero]
theorem cnt_le (l : List Pr) (hl : ∀ f ∈ l, f.cd.length ≤ 200) : ∀ k, k ≤ l.length → cntTo l k ≤ k * 200
  | 0, _ => by simp [cntTo]
  | k + 1, h => by
    rw [cnt_succ l k h]
    have := cnt_le l hl k (by omega)
    have := hl _ (List.getElem_mem (show k < l.length from h))
    omega
theorem proto_at {w : World} {b o : Nat} {l : List Pr} (hx : ∀ i (h : i < l.length), w.cell? ⟨b, o + i * 3, none⟩ = some (.int .i64 l[i].pa) ∧ w.cell? ⟨b, o + i * 3 + 1, none⟩ = some (.int .i64 l[i].rg) ∧ ∃ cv, w.cell? ⟨b, o + i * 3 + 2, none⟩ = some cv ∧ CodeAt w cv l[i].cd)
    (k : Nat) (h : k < l.length) : ∃ (q : Option Addr) (c : Nat), w.cell? ⟨b, o + k * 3, none⟩ = some (.int .i64 l[k].pa) ∧ w.cell? ⟨b, o + k * 3 + 1, none⟩ = some (.int .i64 l[k].rg) ∧ w.cell? ⟨b, o + k * 3 + 2, none⟩ = some (.slice q l[k].cd.length c) ∧ CodeAt w (.slice q l[k].cd.length c) l[k].cd := by
  obtain ⟨h1, h2, cv, h3, h4⟩ := hx k h
  have h5 := h4
  obtain ⟨q, c, rfl, _⟩ := h4
  exact ⟨q, c, h1, h2, h3, h5⟩

set_option maxHeartbeats 1000000 in
theorem count_any (l : List Pr) (vp vi vt : Value) (w : World) (h : ProtosAt w vp l) (hn : l.length ≤ 1000) (hl : ∀ f ∈ l, f.cd.length ≤ 200) :
    Calls Tryd.prog 10 #[.agg #[vp, vi, vt]] w fun e w' => e = .returned (.int .i64 (cntTo l l.length)) ∧ Ext w w' := by
  obtain ⟨q, c, rfl, hq⟩ := h
  obtain ⟨n, hn'⟩ : ∃ n, l.length = n := ⟨_, rfl⟩
  rw [hn'] at hn ⊢
  have HN := Lib.hid hn'
  clear hn'
  rcases Nat.eq_zero_or_pos n with rfl | h0
  · clear hq
    go_enter Tryd.func10, Tryd.ntmps10
    go_wp2
    go_loopw [3, 9] (fun n i wr => n = .int .i64 0 ∧ i = .int .i64 0 ∧ Ext w wr) (fun _ _ _ => 0)
    case atStart => exact ⟨rfl, rfl, (Ext.refl w).alloc _⟩
    case round =>
      obtain ⟨rfl, rfl, he⟩ := hrel
      go_wp2
      go_ret
      exact ⟨rfl, he⟩
  obtain ⟨b, o, rfl, hx⟩ := hq (by rw [HN.out]; exact h0)
  clear hq
  have HX := Lib.hid hx
  clear hx
  go_enter Tryd.func10, Tryd.ntmps10
  go_wp2
  go_loopw [3, 9] (fun m i wr => ∃ k : Nat, k ≤ n ∧ m = .int .i64 (cntTo l k) ∧ i = .int .i64 k ∧ Ext w wr) (fun _ i _ => n - (intOf i).toNat)
  case atStart => exact ⟨0, Nat.zero_le _, rfl, rfl, (Ext.refl w).alloc _⟩
  case round =>
    obtain ⟨k, hk, rfl, rfl, he⟩ := hrel
    by_cases hlt : k < n
    · have hkl : k < l.length := by rw [HN.out]; exact hlt
      obtain ⟨q, c, c1, c2, c3, c4⟩ := proto_at HX.out k hkl
      replace c1 := he.cell c1
      replace c2 := he.cell c2
      replace c3 := he.cell c3
      have b1 := cnt_le l hl k (by omega)
      have b2 := hl _ (List.getElem_mem hkl)
      have HS := Lib.hid (cnt_succ l k hkl)
      obtain ⟨x, hx⟩ : ∃ x, cntTo l k = x := ⟨_, rfl⟩
      obtain ⟨g, hg⟩ : ∃ g, l[k] = g := ⟨_, rfl⟩
      rw [hx] at b1 HS ⊢
      rw [hg] at c1 c2 c3 b2 HS
      obtain ⟨y, hy⟩ : ∃ y, g.cd.length = y := ⟨_, rfl⟩
      rw [hy] at c3 b2 HS
      have HE := Lib.hid he
      clear he hx hy c4 hg hkl
      go_wp2
      go_roundw
      case rel => exact ⟨k + 1, hlt, by rw [HS.out]; go_num, by go_num, HE.out.alloc _⟩
      case measure => simp [intOf]; omega
    · obtain rfl : k = n := by omega
      go_wp2
      go_ret
      exact ⟨rfl, he⟩
set_option maxHeartbeats 1000000 in
theorem rcount_any (l : List Pr) (vp vi vt : Value) (w : World) (h : ProtosAt w vp l) (hn : l.length ≤ 1000) (hl : ∀ f ∈ l, f.cd.length ≤ 200) :
    Calls Tryd.prog 11 #[.agg #[vp, vi, vt]] w fun e w' => e = .returned (.int .i64 (cntTo l l.length)) ∧ Ext w w' := by
  obtain ⟨q, c, rfl, hq⟩ := h
  obtain ⟨n, hn'⟩ : ∃ n, l.length = n := ⟨_, rfl⟩
  rw [hn'] at hn ⊢
  have HN := Lib.hid hn'
  clear hn'
  rcases Nat.eq_zero_or_pos n with rfl | h0
  · clear hq
    go_enter Tryd.func11, Tryd.ntmps11
    go_wp2
    go_loopw [3, 4] (fun n i wr => n = .int .i64 0 ∧ i = .int .i64 0 ∧ wr = w.alloc (.cells #[.slice q 0 c, vi, vt] 26)) (fun _ _ _ => 0)
    case atStart => exact ⟨rfl, rfl, rfl⟩
    case round =>
      obtain ⟨rfl, rfl, rfl⟩ := hrel
      go_wp2
      go_ret
      exact ⟨rfl, (Ext.refl w).alloc _⟩
  obtain ⟨b, o, rfl, hx⟩ := hq (by rw [HN.out]; exact h0)
  clear hq
  have HX := Lib.hid hx
  clear hx
  go_enter Tryd.func11, Tryd.ntmps11
  go_wp2
  go_loopw [3, 4] (fun m i wr => ∃ k : Nat, k ≤ n ∧ m = .int .i64 (cntTo l k) ∧ i = .int .i64 k ∧ wr = w.alloc (.cells #[.slice (some ⟨b, o, none⟩) n c, vi, vt] 26)) (fun _ i _ => n - (intOf i).toNat)
  case atStart => exact ⟨0, Nat.zero_le _, rfl, rfl, rfl⟩
  case round =>
    obtain ⟨k, hk, rfl, rfl, rfl⟩ := hrel
    by_cases hlt : k < n
    · have hkl : k < l.length := by rw [HN.out]; exact hlt
      obtain ⟨q, c', c1, c2, c3, c4⟩ := proto_at HX.out k hkl
      have d3 := cell_lt c3
      simp only at d3
      have b1 := cnt_le l hl k (by omega)
      have b2 := hl _ (List.getElem_mem hkl)
      have HS := Lib.hid (cnt_succ l k hkl)
      obtain ⟨x, hx⟩ : ∃ x, cntTo l k = x := ⟨_, rfl⟩
      obtain ⟨g, hg⟩ : ∃ g, l[k] = g := ⟨_, rfl⟩
      rw [hx] at b1 HS ⊢
      rw [hg] at c1 c2 c3 b2 HS
      obtain ⟨y, hy⟩ : ∃ y, g.cd.length = y := ⟨_, rfl⟩
      rw [hy] at c3 b2 HS
      clear hx hy c4 hg hkl c1 c2
      go_wp2
      go_roundw
      case rel => exact ⟨k + 1, hlt, by rw [HS.out]; go_num, by go_num, trivial⟩
      case measure => simp [intOf]; omega
    · obtain rfl : k = n := by omega
      go_wp2
      go_ret
      exact ⟨rfl, (Ext.refl w).alloc _⟩

theorem end_nil : endB [] = false := rfl
theorem end_last (l : List Ins) (m : Nat) (h : l.length = m + 1) : endB l = (l[m].op == 34 || l[m].op == 35 || l[m].op == 27) := by
  have hne : l ≠ [] := by intro e; simp [e] at h
  unfold endB
  rw [List.getLast?_eq_some_getLast hne, List.getLast_eq_getElem]
  simp [h]
theorem ends_any (l : List Ins) (v : Value) (w : World) (h : CodeAt w v l) (hn : l.length ≤ 1000) :
    Calls Tryd.prog 17 #[v] w fun e w' => e = .returned (.bool (endB l)) ∧ w' = w := by
  obtain ⟨q, c, rfl, hq⟩ := h
  rcases Nat.eq_zero_or_pos l.length with h0 | h0
  · obtain rfl : l = [] := List.eq_nil_of_length_eq_zero h0
    clear hq h0
    go_enter Tryd.func17, Tryd.ntmps17
    go_wp2
    go_ret
    exact ⟨rfl, rfl⟩
  · obtain ⟨b, o, rfl, hx⟩ := hq h0
    clear hq
    obtain ⟨m, hm⟩ : ∃ m, l.length = m + 1 := ⟨l.length - 1, by omega⟩
    rw [end_last l m hm]
    have c0 := (hx m (by omega)).1
    obtain ⟨x, hx'⟩ : ∃ x, (l[m]'(by omega)).op = x := ⟨_, rfl⟩
    rw [hx'] at c0 ⊢
    clear hx'
    rw [hm] at hn ⊢
    have hz : ((((m + 1 : Nat)) : Int) == 0) = false := by simp; omega
    clear hx hm h0
    cases h1 : (x == 34) <;> cases h2 : (x == 35) <;> cases h3 : (x == 27)
    all_goals
      go_enter Tryd.func17, Tryd.ntmps17
      go_wp2
      all_goals (go_ret; exact ⟨rfl, rfl⟩)

/-- Programs that the laws look at are small. -/
structure Few (p : Pg) : Prop where
  np : p.ps.length ≤ 100
  nc : ∀ f ∈ p.ps, f.cd.length ≤ 200
  ni : p.ni ≤ 100
  nt : p.ts.length ≤ 100
structure Sm (p : Pg) : Prop extends Few p where
  sz : ∀ s ∈ p.ts, s.size ≤ 1048576
def longB (l : List ByteArray) : Bool := l.any fun s => decide (1048576 < (s.size : Int))
theorem long_yes (s : ByteArray) (w : World) (h : decide (1048576 < (s.size : Int)) = true) (h2 : s.size ≤ 9223372036854775807) : Calls Tryd.prog 16 #[.string s] w fun e w' => e = .returned (.bool true) ∧ w' = w := by
  go_enter Tryd.func16, Tryd.ntmps16
  go_wp2
  go_ret
  exact ⟨rfl, rfl⟩
theorem long_one (s : ByteArray) (w : World) (h : s.size ≤ 1048576) : Calls Tryd.prog 16 #[.string s] w fun e w' => e = .returned (.bool false) ∧ w' = w := by
  have h' : decide (1048576 < (s.size : Int)) = false := decide_eq_false (by omega)
  go_enter Tryd.func16, Tryd.ntmps16
  go_wp2
  go_ret
  exact ⟨rfl, rfl⟩
theorem index_none (l : List ByteArray) (v : Value) (w : World) (h : TextsAt w v l) (hn : l.length ≤ 1000) (hs : ∀ s ∈ l, s.size ≤ 1048576) :
    Calls Tryd.prog 30 #[v, .func (.func 16) #[] #[]] w fun e w' => e = .returned (.int .i64 (-1)) ∧ w' = w := by
  obtain ⟨q, c, rfl, hq⟩ := h
  obtain ⟨n, hn'⟩ : ∃ n, l.length = n := ⟨_, rfl⟩
  rw [hn'] at hn ⊢
  have HN := Lib.hid hn'
  clear hn'
  rcases Nat.eq_zero_or_pos n with rfl | h0
  · clear hq
    go_enter Tryd.func30, Tryd.ntmps30
    go_wp2
    go_loopw [8] (fun i wr => i = .int .i64 0 ∧ wr = w) (fun _ _ => 0)
    case atStart => exact ⟨rfl, rfl⟩
    case round =>
      obtain ⟨rfl, rfl⟩ := hrel
      go_wp2
      go_ret
      exact ⟨rfl, rfl⟩
  obtain ⟨b, o, rfl, hx⟩ := hq (by rw [HN.out]; exact h0)
  clear hq
  have HX := Lib.hid hx
  clear hx
  go_enter Tryd.func30, Tryd.ntmps30
  go_wp2
  go_loopw [8] (fun i wr => ∃ k : Nat, k ≤ n ∧ i = .int .i64 k ∧ wr = w) (fun i _ => n - (intOf i).toNat)
  case atStart => exact ⟨0, Nat.zero_le _, rfl, rfl⟩
  case round =>
    obtain ⟨k, hk, rfl, rfl⟩ := hrel
    by_cases hlt : k < n
    · have hkl : k < l.length := by rw [HN.out]; exact hlt
      have c1 := HX.out k hkl
      have cl := long_one l[k] wr (hs _ (List.getElem_mem hkl))
      obtain ⟨y, hy⟩ : ∃ y, l[k] = y := ⟨_, rfl⟩
      rw [hy] at c1 cl
      clear hy hkl
      go_wp2_with (refine cl.mono ?_; rintro e w' ⟨rfl, rfl⟩)
      go_roundw
      case rel => exact ⟨k + 1, hlt, by go_num, trivial⟩
      case measure => simp [intOf]; omega
    · obtain rfl : k = n := by omega
      go_wp2
      go_ret
      exact ⟨rfl, rfl⟩
theorem contains_none (l : List ByteArray) (v : Value) (w : World) (h : TextsAt w v l) (hn : l.length ≤ 1000) (hs : ∀ s ∈ l, s.size ≤ 1048576) :
    Calls Tryd.prog 15 #[v, .func (.func 16) #[] #[]] w fun e w' => e = .returned (.bool false) ∧ w' = w := by
  have h1 := h
  obtain ⟨q, c, rfl, hq⟩ := h
  clear hq
  go_enter Tryd.func15, Tryd.ntmps15
  go_wp2_with (go_at_call 30; refine (index_none l _ _ h1 hn hs).mono ?_; rintro e w' ⟨rfl, rfl⟩)
  go_ret
  exact ⟨rfl, rfl⟩
theorem any_split (l : List ByteArray) (k : Nat) (h : k < l.length) : longB (l.drop k) = (decide (1048576 < (l[k].size : Int)) || longB (l.drop (k + 1))) := by
  unfold longB
  rw [List.drop_eq_getElem_cons h, List.any_cons]
/-- Is an ending's value a number that isn't below 0? -/
def NotNeg (e : Ending) : Prop := ∃ n : Nat, n ≤ 1000 ∧ e = .returned (.int .i64 n)
theorem index_some (l : List ByteArray) (v : Value) (w : World) (h : TextsAt w v l) (hn : l.length ≤ 1000) (hs : ∀ s ∈ l, s.size ≤ 9223372036854775807) (hl : longB l = true) :
    Calls Tryd.prog 30 #[v, .func (.func 16) #[] #[]] w fun e w' => NotNeg e ∧ w' = w := by
  obtain ⟨q, c, rfl, hq⟩ := h
  obtain ⟨n, hn'⟩ : ∃ n, l.length = n := ⟨_, rfl⟩
  rw [hn'] at hn ⊢
  have HN := Lib.hid hn'
  rcases Nat.eq_zero_or_pos n with rfl | h0
  · rw [List.eq_nil_of_length_eq_zero hn'] at hl; cases hl
  obtain ⟨b, o, rfl, hx⟩ := hq (by rw [HN.out]; exact h0)
  clear hq hn'
  have HX := Lib.hid hx
  have HL := Lib.hid hl
  clear hx hl
  go_enter Tryd.func30, Tryd.ntmps30
  go_wp2
  go_loopw [8] (fun i wr => ∃ k : Nat, k ≤ n ∧ i = .int .i64 k ∧ wr = w ∧ Hid (longB (l.drop k) = true)) (fun i _ => n - (intOf i).toNat)
  case atStart => exact ⟨0, Nat.zero_le _, rfl, rfl, HL⟩
  case round =>
    obtain ⟨k, hk, rfl, rfl, HK⟩ := hrel
    by_cases hlt : k < n
    · have hkl : k < l.length := by rw [HN.out]; exact hlt
      have c1 := HX.out k hkl
      have hs1 := hs _ (List.getElem_mem hkl)
      have HD := Lib.hid (any_split l k hkl)
      obtain ⟨y, hy⟩ : ∃ y, l[k] = y := ⟨_, rfl⟩
      rw [hy] at c1 HD hs1
      clear hy hkl
      cases hd : decide (1048576 < (y.size : Int))
      · have cl := long_one y wr (by have := of_decide_eq_false hd; omega)
        have HZ : Hid (longB (l.drop (k + 1)) = true) := by have := HD.out; rw [HK.out, hd] at this; exact this.symm
        clear hd
        go_wp2_with (refine cl.mono ?_; rintro e w' ⟨rfl, rfl⟩)
        go_roundw
        case rel => exact ⟨k + 1, hlt, by go_num, trivial, HZ⟩
        case measure => simp [intOf]; omega
      · have cl := long_yes y wr hd hs1
        clear hd
        go_wp2_with (refine cl.mono ?_; rintro e w' ⟨rfl, rfl⟩)
        go_ret
        exact ⟨⟨k, by omega, rfl⟩, rfl⟩
    · have := HK.out
      rw [List.drop_eq_nil_of_le (by rw [HN.out]; omega)] at this
      cases this
theorem contains_some (l : List ByteArray) (v : Value) (w : World) (h : TextsAt w v l) (hn : l.length ≤ 1000) (hs : ∀ s ∈ l, s.size ≤ 9223372036854775807) (hl : longB l = true) :
    Calls Tryd.prog 15 #[v, .func (.func 16) #[] #[]] w fun e w' => e = .returned (.bool true) ∧ w' = w := by
  have h1 := h
  obtain ⟨q, c, rfl, hq⟩ := h
  clear hq
  go_enter Tryd.func15, Tryd.ntmps15
  go_wp2_with fail
  refine (index_some l _ _ h1 hn hs hl).mono ?_
  rintro e w' ⟨⟨n, hn0, rfl⟩, rfl⟩
  go_wp2
  go_ret
  exact ⟨rfl, rfl⟩
end Go.Proofs.YtifabbjgbfpfbaaDoor
