/- Small functions over a program's parts: how many instructions; how code ends; texts that are too long. May a program be: the code's own answer. -/
import Derived.Test.YtfjipoijbmmjcaaGreatDoorYA4
import Derived.Deep.LoopGhost
namespace Go.Proofs.YtfjipoijbmmjcaaGreatDoor
open Go.RowKit
set_option linter.unusedVariables false
set_option linter.unusedSimpArgs false

def cntTo (l : List Pr) (k : Nat) : Nat := ((l.take k).map fun f => f.cd.length).sum
theorem cnt_succ (l : List Pr) (k : Nat) (h : k < l.length) : cntTo l (k + 1) = cntTo l k + l[k].cd.length := by
 unfold cntTo
 rw [List.take_succ_eq_append_getElem h]
 simp only [List.map_append, List.map_cons, List.map_nil, List.sum_append, List.sum_cons, List.sum_nil, Nat.add_zero]
theorem cnt_le (l : List Pr) (hl : ∀ f ∈ l, f.cd.length ≤ 1000) : ∀ k, k ≤ l.length → cntTo l k ≤ k * 1000
 | 0, _ => by simp [cntTo]
 | k + 1, h => by
  rw [cnt_succ l k h]
  have := cnt_le l hl k (by omega)
  have := hl _ (List.getElem_mem (show k < l.length from h))
  omega
theorem proto_at {w : World} {b o : Nat} {l : List Pr} (hx : ∀ i (h : i < l.length), w.cell? ⟨b, o + i * 3, none⟩ = some (.int .i64 l[i].pa) ∧ w.cell? ⟨b, o + i * 3 + 1, none⟩ = some (.int .i64 l[i].rg) ∧ ∃ cv, w.cell? ⟨b, o + i * 3 + 2, none⟩ = some cv ∧ CodeAt w cv l[i].cd)
  (k : Nat) (h : k < l.length) : ∃ (q : Option Addr) (c : Nat), w.cell? ⟨b, o + k * 3, none⟩ = some (.int .i64 l[k].pa) ∧ w.cell? ⟨b, o + k * 3 + 1, none⟩ = some (.int .i64 l[k].rg) ∧ w.cell? ⟨b, o + k * 3 + 2, none⟩ = some (.slice q l[k].cd.length c) ∧ CodeAt w (.slice q l[k].cd.length c) l[k].cd := by
 obtain ⟨h1, h2, cv, h3, h4⟩ := hx k h
 have h5 := h4
 obtain ⟨q, c, rfl, _⟩ := h4
 exact ⟨q, c, h1, h2, h3, h5⟩
set_option maxHeartbeats 1000000 in
theorem count_any (l : List Pr) (vp vi vt : Value) (w : World) (h : ProtosAt w vp l) (hn : l.length ≤ 1000) (hl : ∀ f ∈ l, f.cd.length ≤ 1000) :
  Calls Tryz.prog 13 #[.agg #[vp, vi, vt]] w fun e w' => e = .returned (.int .i64 (cntTo l l.length)) ∧ Ext w w' := by
 obtain ⟨q, c, rfl, hq⟩ := h
 obtain ⟨n, hn'⟩ : ∃ n, l.length = n := ⟨_, rfl⟩
 rw [hn'] at hn ⊢
 have HN := Lib.hid hn'
 clear hn'
 rcases Nat.eq_zero_or_pos n with rfl | h0
 ·clear hq
  go_enter Tryz.func13, Tryz.ntmps13
  go_wp2
  go_loopw [3, 9] (fun n i wr => n = .int .i64 0 ∧ i = .int .i64 0 ∧ Ext w wr) (fun _ _ _ => 0)
  case atStart => exact ⟨rfl, rfl, (Ext.refl w).alloc _⟩
  case round =>
   obtain ⟨rfl, rfl, he⟩ := hrel
   go_wp2
   go_ret
   exact ⟨rfl, he⟩
 obtain ⟨b, o, rfl, hx⟩ := hq (by rw [HN.out]; exact h0)
 clear hq
 have HX := Lib.hid hx
 clear hx
 go_enter Tryz.func13, Tryz.ntmps13
 go_wp2
 go_loopw [3, 9] (fun m i wr => ∃ k : Nat, k ≤ n ∧ m = .int .i64 (cntTo l k) ∧ i = .int .i64 k ∧ Ext w wr) (fun _ i _ => n - (intOf i).toNat)
 case atStart => exact ⟨0, Nat.zero_le _, rfl, rfl, (Ext.refl w).alloc _⟩
 case round =>
  obtain ⟨k, hk, rfl, rfl, he⟩ := hrel
  by_cases hlt : k < n
  ·have hkl : k < l.length := by rw [HN.out]; exact hlt
   obtain ⟨q, c, c1, c2, c3, c4⟩ := proto_at HX.out k hkl
   replace c1 := he.cell c1
   replace c2 := he.cell c2
   replace c3 := he.cell c3
   have b1 := cnt_le l hl k (by omega)
   have b2 := hl _ (List.getElem_mem hkl)
   have HS := Lib.hid (cnt_succ l k hkl)
   obtain ⟨x, hx⟩ : ∃ x, cntTo l k = x := ⟨_, rfl⟩
   obtain ⟨g, hg⟩ : ∃ g, l[k] = g := ⟨_, rfl⟩
   rw [hx] at b1 HS ⊢
   rw [hg] at c1 c2 c3 b2 HS
   obtain ⟨y, hy⟩ : ∃ y, g.cd.length = y := ⟨_, rfl⟩
   rw [hy] at c3 b2 HS
   have HE := Lib.hid he
   clear he hx hy c4 hg hkl
   go_wp2
   go_roundw
   case rel => exact ⟨k + 1, hlt, by rw [HS.out]; go_num, by go_num, HE.out.alloc _⟩
   case measure => simp [intOf]; omega
  ·obtain rfl : k = n := by omega
   go_wp2
   go_ret
   exact ⟨rfl, he⟩
set_option maxHeartbeats 1000000 in
theorem rcount_any (l : List Pr) (vp vi vt : Value) (w : World) (h : ProtosAt w vp l) (hn : l.length ≤ 1000) (hl : ∀ f ∈ l, f.cd.length ≤ 1000) :
  Calls Tryz.prog 19 #[.agg #[vp, vi, vt]] w fun e w' => e = .returned (.int .i64 (cntTo l l.length)) ∧ Ext w w' := by
 obtain ⟨q, c, rfl, hq⟩ := h
 obtain ⟨n, hn'⟩ : ∃ n, l.length = n := ⟨_, rfl⟩
 rw [hn'] at hn ⊢
 have HN := Lib.hid hn'
 clear hn'
 rcases Nat.eq_zero_or_pos n with rfl | h0
 ·clear hq
  go_enter Tryz.func19, Tryz.ntmps19
  go_wp2
  go_loopw [3, 4] (fun n i wr => n = .int .i64 0 ∧ i = .int .i64 0 ∧ wr = w.alloc (.cells #[.slice q 0 c, vi, vt] 26)) (fun _ _ _ => 0)
  case atStart => exact ⟨rfl, rfl, rfl⟩
  case round =>
   obtain ⟨rfl, rfl, rfl⟩ := hrel
   go_wp2
   go_ret
   exact ⟨rfl, (Ext.refl w).alloc _⟩
 obtain ⟨b, o, rfl, hx⟩ := hq (by rw [HN.out]; exact h0)
 clear hq
 have HX := Lib.hid hx
 clear hx
 go_enter Tryz.func19, Tryz.ntmps19
 go_wp2
 go_loopw [3, 4] (fun m i wr => ∃ k : Nat, k ≤ n ∧ m = .int .i64 (cntTo l k) ∧ i = .int .i64 k ∧ wr = w.alloc (.cells #[.slice (some ⟨b, o, none⟩) n c, vi, vt] 26)) (fun _ i _ => n - (intOf i).toNat)
 case atStart => exact ⟨0, Nat.zero_le _, rfl, rfl, rfl⟩
 case round =>
  obtain ⟨k, hk, rfl, rfl, rfl⟩ := hrel
  by_cases hlt : k < n
  ·have hkl : k < l.length := by rw [HN.out]; exact hlt
   obtain ⟨q, c', c1, c2, c3, c4⟩ := proto_at HX.out k hkl
   have d3 := cell_lt c3
   simp only at d3
   have b1 := cnt_le l hl k (by omega)
   have b2 := hl _ (List.getElem_mem hkl)
   have HS := Lib.hid (cnt_succ l k hkl)
   obtain ⟨x, hx⟩ : ∃ x, cntTo l k = x := ⟨_, rfl⟩
   obtain ⟨g, hg⟩ : ∃ g, l[k] = g := ⟨_, rfl⟩
   rw [hx] at b1 HS ⊢
   rw [hg] at c1 c2 c3 b2 HS
   obtain ⟨y, hy⟩ : ∃ y, g.cd.length = y := ⟨_, rfl⟩
   rw [hy] at c3 b2 HS
   clear hx hy c4 hg hkl c1 c2
   go_wp2
   go_roundw
   case rel => exact ⟨k + 1, hlt, by rw [HS.out]; go_num, by go_num, trivial⟩
   case measure => simp [intOf]; omega
  ·obtain rfl : k = n := by omega
   go_wp2
   go_ret
   exact ⟨rfl, (Ext.refl w).alloc _⟩
theorem end_last (l : List Ins) (m : Nat) (h : l.length = m + 1) : endB l = (l[m].op == 34 || l[m].op == 35 || l[m].op == 27) := by
 have hne : l ≠ [] := by intro e; simp [e] at h
 unfold endB
 rw [List.getLast?_eq_some_getLast hne, List.getLast_eq_getElem]
 simp [h]
theorem ends_any (l : List Ins) (v : Value) (w : World) (h : CodeAt w v l) (hn : l.length ≤ 1000) :
  Calls Tryz.prog 29 #[v] w fun e w' => e = .returned (.bool (endB l)) ∧ w' = w := by
 obtain ⟨q, c, rfl, hq⟩ := h
 rcases Nat.eq_zero_or_pos l.length with h0 | h0
 ·obtain rfl : l = [] := List.eq_nil_of_length_eq_zero h0
  clear hq h0
  go_enter Tryz.func29, Tryz.ntmps29
  go_wp2
  go_ret
  exact ⟨rfl, rfl⟩
 ·obtain ⟨b, o, rfl, hx⟩ := hq h0
  clear hq
  obtain ⟨m, hm⟩ : ∃ m, l.length = m + 1 := ⟨l.length - 1, by omega⟩
  rw [end_last l m hm]
  have c0 := (hx m (by omega)).1
  obtain ⟨x, hx'⟩ : ∃ x, (l[m]'(by omega)).op = x := ⟨_, rfl⟩
  rw [hx'] at c0 ⊢
  clear hx'
  rw [hm] at hn ⊢
  have hz : ((((m + 1 : Nat)) : Int) == 0) = false := by simp; omega
  clear hx hm h0
  cases h1 : (x == 34) <;> cases h2 : (x == 35) <;> cases h3 : (x == 27)
  all_goals
   go_enter Tryz.func29, Tryz.ntmps29
   go_wp2
   all_goals (go_ret; exact ⟨rfl, rfl⟩)
structure Few (p : Pg) : Prop where
 np : p.ps.length ≤ 1000
 nc : ∀ f ∈ p.ps, f.cd.length ≤ 1000
 ni : p.ni ≤ 1000
 nt : p.ts.length ≤ 1000
 tot : cntTo p.ps p.ps.length ≤ 20000
structure Sm (p : Pg) : Prop extends Few p where
 sz : ∀ s ∈ p.ts, s.size ≤ 1048576
def longB (l : List ByteArray) : Bool := l.any fun s => decide (1048576 < (s.size : Int))
theorem long_yes (s : ByteArray) (w : World) (h : decide (1048576 < (s.size : Int)) = true) (h2 : s.size ≤ 9223372036854775807) : Calls Tryz.prog 28 #[.string s] w fun e w' => e = .returned (.bool true) ∧ w' = w := by
 go_enter Tryz.func28, Tryz.ntmps28
 go_wp2
 go_ret
 exact ⟨rfl, rfl⟩
theorem long_one (s : ByteArray) (w : World) (h : s.size ≤ 1048576) : Calls Tryz.prog 28 #[.string s] w fun e w' => e = .returned (.bool false) ∧ w' = w := by
 have h' : decide (1048576 < (s.size : Int)) = false := decide_eq_false (by omega)
 go_enter Tryz.func28, Tryz.ntmps28
 go_wp2
 go_ret
 exact ⟨rfl, rfl⟩
theorem index_none (l : List ByteArray) (v : Value) (w : World) (h : TextsAt w v l) (hn : l.length ≤ 1000) (hs : ∀ s ∈ l, s.size ≤ 1048576) :
  Calls Tryz.prog 47 #[v, .func (.func 28) #[] #[]] w fun e w' => e = .returned (.int .i64 (-1)) ∧ w' = w := by
 obtain ⟨q, c, rfl, hq⟩ := h
 obtain ⟨n, hn'⟩ : ∃ n, l.length = n := ⟨_, rfl⟩
 rw [hn'] at hn ⊢
 have HN := Lib.hid hn'
 clear hn'
 rcases Nat.eq_zero_or_pos n with rfl | h0
 ·clear hq
  go_enter Tryz.func47, Tryz.ntmps47
  go_wp2
  go_loopw [8] (fun i wr => i = .int .i64 0 ∧ wr = w) (fun _ _ => 0)
  case atStart => exact ⟨rfl, rfl⟩
  case round =>
   obtain ⟨rfl, rfl⟩ := hrel
   go_wp2
   go_ret
   exact ⟨rfl, rfl⟩
 obtain ⟨b, o, rfl, hx⟩ := hq (by rw [HN.out]; exact h0)
 clear hq
 have HX := Lib.hid hx
 clear hx
 go_enter Tryz.func47, Tryz.ntmps47
 go_wp2
 go_loopw [8] (fun i wr => ∃ k : Nat, k ≤ n ∧ i = .int .i64 k ∧ wr = w) (fun i _ => n - (intOf i).toNat)
 case atStart => exact ⟨0, Nat.zero_le _, rfl, rfl⟩
 case round =>
  obtain ⟨k, hk, rfl, rfl⟩ := hrel
  by_cases hlt : k < n
  ·have hkl : k < l.length := by rw [HN.out]; exact hlt
   have c1 := HX.out k hkl
   have cl := long_one l[k] wr (hs _ (List.getElem_mem hkl))
   obtain ⟨y, hy⟩ : ∃ y, l[k] = y := ⟨_, rfl⟩
   rw [hy] at c1 cl
   clear hy hkl
   go_wp2_with (refine cl.mono ?_; rintro e w' ⟨rfl, rfl⟩)
   go_roundw
   case rel => exact ⟨k + 1, hlt, by go_num, trivial⟩
   case measure => simp [intOf]; omega
  ·obtain rfl : k = n := by omega
   go_wp2
   go_ret
   exact ⟨rfl, rfl⟩
theorem contains_none (l : List ByteArray) (v : Value) (w : World) (h : TextsAt w v l) (hn : l.length ≤ 1000) (hs : ∀ s ∈ l, s.size ≤ 1048576) :
  Calls Tryz.prog 27 #[v, .func (.func 28) #[] #[]] w fun e w' => e = .returned (.bool false) ∧ w' = w := by
 have h1 := h
 obtain ⟨q, c, rfl, hq⟩ := h
 clear hq
 go_enter Tryz.func27, Tryz.ntmps27
 go_wp2_with (go_at_call 47; refine (index_none l _ _ h1 hn hs).mono ?_; rintro e w' ⟨rfl, rfl⟩)
 go_ret
 exact ⟨rfl, rfl⟩
theorem any_split (l : List ByteArray) (k : Nat) (h : k < l.length) : longB (l.drop k) = (decide (1048576 < (l[k].size : Int)) || longB (l.drop (k + 1))) := by
 unfold longB
 rw [List.drop_eq_getElem_cons h, List.any_cons]
def NotNeg (e : Ending) : Prop := ∃ n : Nat, n ≤ 1000 ∧ e = .returned (.int .i64 n)
theorem index_some (l : List ByteArray) (v : Value) (w : World) (h : TextsAt w v l) (hn : l.length ≤ 1000) (hs : ∀ s ∈ l, s.size ≤ 9223372036854775807) (hl : longB l = true) :
  Calls Tryz.prog 47 #[v, .func (.func 28) #[] #[]] w fun e w' => NotNeg e ∧ w' = w := by
 obtain ⟨q, c, rfl, hq⟩ := h
 obtain ⟨n, hn'⟩ : ∃ n, l.length = n := ⟨_, rfl⟩
 rw [hn'] at hn ⊢
 have HN := Lib.hid hn'
 rcases Nat.eq_zero_or_pos n with rfl | h0
 ·rw [List.eq_nil_of_length_eq_zero hn'] at hl; cases hl
 obtain ⟨b, o, rfl, hx⟩ := hq (by rw [HN.out]; exact h0)
 clear hq hn'
 have HX := Lib.hid hx
 have HL := Lib.hid hl
 clear hx hl
 go_enter Tryz.func47, Tryz.ntmps47
 go_wp2
 go_loopw [8] (fun i wr => ∃ k : Nat, k ≤ n ∧ i = .int .i64 k ∧ wr = w ∧ Hid (longB (l.drop k) = true)) (fun i _ => n - (intOf i).toNat)
 case atStart => exact ⟨0, Nat.zero_le _, rfl, rfl, HL⟩
 case round =>
  obtain ⟨k, hk, rfl, rfl, HK⟩ := hrel
  by_cases hlt : k < n
  ·have hkl : k < l.length := by rw [HN.out]; exact hlt
   have c1 := HX.out k hkl
   have hs1 := hs _ (List.getElem_mem hkl)
   have HD := Lib.hid (any_split l k hkl)
   obtain ⟨y, hy⟩ : ∃ y, l[k] = y := ⟨_, rfl⟩
   rw [hy] at c1 HD hs1
   clear hy hkl
   cases hd : decide (1048576 < (y.size : Int))
   ·have cl := long_one y wr (by have := of_decide_eq_false hd; omega)
    have HZ : Hid (longB (l.drop (k + 1)) = true) := by have := HD.out; rw [HK.out, hd] at this; exact this.symm
    clear hd
    go_wp2_with (refine cl.mono ?_; rintro e w' ⟨rfl, rfl⟩)
    go_roundw
    case rel => exact ⟨k + 1, hlt, by go_num, trivial, HZ⟩
    case measure => simp [intOf]; omega
   ·have cl := long_yes y wr hd hs1
    clear hd
    go_wp2_with (refine cl.mono ?_; rintro e w' ⟨rfl, rfl⟩)
    go_ret
    exact ⟨⟨k, by omega, rfl⟩, rfl⟩
  ·have := HK.out
   rw [List.drop_eq_nil_of_le (by rw [HN.out]; omega)] at this
   cases this
theorem contains_some (l : List ByteArray) (v : Value) (w : World) (h : TextsAt w v l) (hn : l.length ≤ 1000) (hs : ∀ s ∈ l, s.size ≤ 9223372036854775807) (hl : longB l = true) :
  Calls Tryz.prog 27 #[v, .func (.func 28) #[] #[]] w fun e w' => e = .returned (.bool true) ∧ w' = w := by
 have h1 := h
 obtain ⟨q, c, rfl, hq⟩ := h
 clear hq
 go_enter Tryz.func27, Tryz.ntmps27
 go_wp2_with fail
 refine (index_some l _ _ h1 hn hs hl).mono ?_
 rintro e w' ⟨⟨n, hn0, rfl⟩, rfl⟩
 go_wp2
 go_ret
 exact ⟨rfl, rfl⟩
end Go.Proofs.YtfjipoijbmmjcaaGreatDoor
namespace Go.Proofs.YtfjipoijbmmjcaaGreatDoor
open Go.RowKit Go.BigFrame
set_option linter.unusedVariables false
set_option linter.unusedSimpArgs false

def okP (p : Pg) (f : Pr) : Bool := endB f.cd && f.cd.all (insB p f)
theorem chk_eq (p : Pg) (f : Pr) (l : List Pr) (h : p.ps = f :: l) : chkB p = ((f.pa == 0) && p.ps.all prB && p.ps.all (okP p)) := by
 simp only [chkB, h]; rfl
theorem all_take {α : Type} (l : List α) (g : α → Bool) (k : Nat) (h : k < l.length) : (l.take (k + 1)).all g = ((l.take k).all g && g l[k]) := by
 rw [List.take_succ_eq_append_getElem h, List.all_append]; simp
theorem all_no {α : Type} (l : List α) (g : α → Bool) (k : Nat) (h : k < l.length) (hg : g l[k] = false) : l.all g = false := by
 rw [List.all_eq_false]; exact ⟨_, List.getElem_mem h, by simp [hg]⟩
theorem chk_bounds {p : Pg} (h : p.ps.all prB = true) (f : Pr) (hf : f ∈ p.ps) : Bounds p f := by
 rw [List.all_eq_true] at h
 have := h f hf
 simp only [prB, Bool.and_eq_true, decide_eq_true_eq] at this
 refine ⟨by omega, by omega, fun g hg => ?_⟩
 have := h g hg
 simp only [prB, Bool.and_eq_true, decide_eq_true_eq] at this
 omega
theorem instr_all (p : Pg) (vp vi vt cv : Value) (f : Pr) (i : Ins) (v : Bool) (hv : insB p f i = v) (w : World) (h : Lies w vp vi vt p) (hc : CodeAt w cv f.cd) (hb : Bounds p f) :
  Calls Tryz.prog 30 #[askV vp vi vt f cv, insV i] w fun e w' => e = .returned (.bool v) ∧ Ext w w' := by
 subst hv
 cases h1 : (decide (1 ≤ i.op) && decide (i.op ≤ 35))
 ·have e : insB p f i = false := by simp only [insB, h1, Bool.false_and]
  rw [e]
  exact instr_no vp vi vt cv f i w h1
 ·simp only [Bool.and_eq_true, decide_eq_true_eq] at h1
  exact instr_yes p vp vi vt cv f i w h1.1 h1.2 h hc hb
set_option maxRecDepth 100000 in
set_option maxHeartbeats 4000000 in
theorem chk_none (vp vi vt : Value) (w : World) (h : ProtosAt w vp []) : Calls Tryz.prog 12 #[.agg #[vp, vi, vt]] w fun e w' => e = .returned (.int .i64 2) ∧ Ext w w' := by
  obtain ⟨q, c, rfl, hq⟩ := h
  clear hq
  go_enter Tryz.func12, Tryz.ntmps12
  go_wp2_with fail
  go_step3
  go_wp2_with fail
  refine wp_region_ext (by kernel_rfl) (by kernel_rfl) ?_
  repeat (
    first
      | go_big_quiet_skip
      | (go_big_quiet_want
         go_big_quiet_op
         first
           | go_big_quiet_on
           | (apply Exists.intro
              refine ⟨fun wq hq => ?_, ?_⟩
              focus (
                have q1 := (Ext.cells hq).1
                have q2 := (Ext.cells hq).2
                first
                  | (fail; done)
                  | (go_simp; exact rfl))
              go_big_quiet_on)))
  refine wpQuiet_nil ?_
  intro we hwe
  go_wp2_with fail
  rw [Exit.noGoto_ret]
  go_ret
  exact ⟨rfl, ((Ext.refl w).alloc _).trans hwe⟩
set_option maxRecDepth 100000 in
set_option maxHeartbeats 4000000 in
theorem chk_head (p : Pg) (f0 : Pr) (tl : List Pr) (hp : p.ps = f0 :: tl) (vp vi vt : Value) (w : World) (h : Lies w vp vi vt p) (hs : Few p) (h0 : (f0.pa == 0) = false) :
    Calls Tryz.prog 12 #[.agg #[vp, vi, vt]] w fun e w' => e = .returned (.int .i64 2) ∧ Ext w w' := by
  obtain ⟨q, c, rfl, hq⟩ := h.ps
  obtain ⟨b, o, rfl, hx⟩ := hq (by rw [hp]; simp)
  clear hq
  obtain ⟨qi, ci, rfl⟩ := h.is
  obtain ⟨qt, ct, rfl, hqt⟩ := h.ts
  clear hqt
  obtain ⟨n, hn⟩ : ∃ n, p.ps.length = n := ⟨_, rfl⟩
  obtain ⟨nt, hnt⟩ : ∃ n, p.ts.length = n := ⟨_, rfl⟩
  have n1 : 1 ≤ n := by rw [← hn, hp]; simp
  have n2 : n ≤ 1000 := by rw [← hn]; exact hs.np
  have nt2 : nt ≤ 1000 := by rw [← hnt]; exact hs.nt
  have ni2 : p.ni ≤ 1000 := hs.ni
  have c0 : w.cell? ⟨b, o, none⟩ = some (.int .i64 f0.pa) := by
    have := (hx 0 (by omega)).1
    simpa [hp] using this
  have lb := cell_lt c0
  simp only at lb
  have HX := Lib.hid hx
  have H := Lib.hid h
  clear hx h
  rw [hn, hnt] at H
  rw [hn, hnt]
  have HN := Lib.hid hn
  have HT := Lib.hid hnt
  clear hn hnt
  have d1 : decide ((n : Int) < 1) = false := decide_eq_false (by omega)
  have d2 : decide (1000 < (n : Int)) = false := decide_eq_false (by omega)
  have d3 : (f0.pa != 0) = true := by simpa using h0
  clear HX H HN HT hs hp h0
  go_enter Tryz.func12, Tryz.ntmps12
  go_wp2_with fail
  go_step3
  go_wp2_with fail
  refine wp_region_ext (by kernel_rfl) (by kernel_rfl) ?_
  repeat (
    first
      | go_big_quiet_skip
      | (go_big_quiet_want
         go_big_quiet_op
         first
           | go_big_quiet_on
           | (apply Exists.intro
              refine ⟨fun wq hq => ?_, ?_⟩
              focus (
                have q1 := (Ext.cells hq).1
                have q2 := (Ext.cells hq).2
                first
                  | (fail; done)
                  | (go_simp; exact rfl))
              go_big_quiet_on)))
  refine wpQuiet_nil ?_
  intro we hwe
  go_wp2_with fail
  rw [Exit.noGoto_ret]
  go_ret
  exact ⟨rfl, ((Ext.refl w).alloc _).trans hwe⟩
set_option maxRecDepth 100000 in
set_option maxHeartbeats 8000000 in
theorem chk_bad (p : Pg) (f0 : Pr) (tl : List Pr) (hp : p.ps = f0 :: tl) (vp vi vt : Value) (w : World) (h : Lies w vp vi vt p) (hs : Sm p) (h0 : (f0.pa == 0) = true) (h1 : p.ps.all prB = false) :
    Calls Tryz.prog 12 #[.agg #[vp, vi, vt]] w fun e w' => e = .returned (.int .i64 2) ∧ Ext w w' := by
  obtain ⟨q, c, rfl, hq⟩ := h.ps
  obtain ⟨b, o, rfl, hx⟩ := hq (by rw [hp]; simp)
  clear hq
  obtain ⟨qi, ci, rfl⟩ := h.is
  obtain ⟨qt, ct, rfl, hqt⟩ := h.ts
  clear hqt
  obtain ⟨n, hn⟩ : ∃ n, p.ps.length = n := ⟨_, rfl⟩
  obtain ⟨nt, hnt⟩ : ∃ n, p.ts.length = n := ⟨_, rfl⟩
  have n1 : 1 ≤ n := by rw [← hn, hp]; simp
  have n2 : n ≤ 1000 := by rw [← hn]; exact hs.np
  have nt2 : nt ≤ 1000 := by rw [← hnt]; exact hs.nt
  have ni2 : p.ni ≤ 1000 := hs.ni
  have c0 : w.cell? ⟨b, o, none⟩ = some (.int .i64 f0.pa) := by
    have := (hx 0 (by omega)).1
    simpa [hp] using this
  have lb := cell_lt c0
  simp only at lb
  have HX := Lib.hid hx
  have H := Lib.hid h
  clear hx h
  rw [hn, hnt] at H
  rw [hn, hnt]
  have HN := Lib.hid hn
  have HT := Lib.hid hnt
  clear hn hnt
  have d1 : decide ((n : Int) < 1) = false := decide_eq_false (by omega)
  have d2 : decide (1000 < (n : Int)) = false := decide_eq_false (by omega)
  have d3 : (f0.pa != 0) = false := by simpa using h0
  obtain ⟨m, hm⟩ : ∃ m, cntTo p.ps p.ps.length = m := ⟨_, rfl⟩
  have m2 : m ≤ 20000 := by
    have := hs.tot
    omega
  have cC := fun W (hE : Ext w W) => count_any p.ps _ (.slice qi p.ni ci) (.slice qt nt ct) W (H.out.ps.ext hE) (Nat.le_trans hs.np (by omega)) hs.nc
  rw [hm] at cC
  have s1 : IntKind.i64.wrap ((m : Int) + (p.ni : Int)) = (m : Int) + (p.ni : Int) := IntWalk.i64_in _ (by omega)
  have s2 : IntKind.i64.wrap ((m : Int) + (p.ni : Int) + (nt : Int)) = (m : Int) + (p.ni : Int) + (nt : Int) := IntWalk.i64_in _ (by omega)
  have d4 : decide (65536 < (m : Int) + (p.ni : Int) + (nt : Int)) = false := decide_eq_false (by omega)
  clear hm
  go_enter Tryz.func12, Tryz.ntmps12
  go_wp2_with fail
  go_step3
  go_wp2_with fail
  refine wp_region_ext (by kernel_rfl) (by kernel_rfl) ?_
  repeat (
    first
      | go_big_quiet_skip
      | (go_big_quiet_want
         go_big_quiet_op
         first
           | go_big_quiet_on
           | (apply Exists.intro
              refine ⟨fun wq hq => ?_, ?_⟩
              focus (
                have q1 := (Ext.cells hq).1
                have q2 := (Ext.cells hq).2
                first
                  | ((go_at_call 13; exact Calls.ext_of hq (cC _ (((Ext.refl w).alloc _).trans hq))); done)
                  | (go_simp; exact rfl))
              go_big_quiet_on)))
  refine wpQuiet_nil ?_
  intro we hwe
  clear cC s1 s2 d1 d2 d3 d4 m2 c0
  have k0 : Ext w we := ((Ext.refl w).alloc _).trans hwe
  have b0 := hwe.cell (a := ⟨w.heap.size, 0, none⟩) (v := .slice (some ⟨b, o, none⟩) n c) (by go_simp)
  have b1 := hwe.cell (a := ⟨w.heap.size, 1, none⟩) (v := (.slice qi p.ni ci)) (by go_simp)
  have b2 := hwe.cell (a := ⟨w.heap.size, 2, none⟩) (v := .slice qt nt ct) (by go_simp)
  clear hwe
  go_wp2_with fail
  refine (contains_none p.ts _ we (H.out.ts.ext k0) (Nat.le_trans hs.nt (by omega)) hs.sz).mono ?_
  rintro e w2 ⟨rfl, hw2⟩
  obtain rfl := hw2.symm
  clear hw2
  go_wp2_with fail
  go_loopg [3, 49] n (fun g s3 s49 wr => ∃ (k : Nat) (x : Bool), k + g = n ∧ s49 = .int .i64 k ∧ s3 = .bool x ∧ Ext w wr ∧ Hid ((p.ps.take k).all prB = x))
  case atStart => exact ⟨0, true, by omega, rfl, rfl, k0, rfl⟩
  case round =>
    obtain ⟨k, x, hkg, rfl, rfl, he, HA⟩ := hrel
    cases gk with
    | zero =>
      obtain rfl : k = n := by omega
      obtain rfl : x = false := by rw [← HA.out, List.take_of_length_le (by rw [HN.out]; exact Nat.le_refl _)]; exact h1
      have hkz : ¬ ((k : Int) < (k : Int)) := by omega
      go_wp2_with fail
      try rw [Exit.noGoto_ret]
      go_ret
      exact ⟨rfl, he⟩
    | succ g =>
      have hkz : (k : Int) < (n : Int) := by omega
      have hkn : k < n := by omega
      have hkl : k < p.ps.length := by rw [HN.out]; omega
      obtain ⟨q1, cc, c1, c2, c3, c4⟩ := proto_at HX.out k hkl
      clear c4
      replace c1 := he.cell c1
      replace c2 := he.cell c2
      replace c3 := he.cell c3
      have HS := Lib.hid (all_take p.ps prB k hkl)
      obtain ⟨g0, hg0⟩ : ∃ g0, p.ps[k] = g0 := ⟨_, rfl⟩
      rw [hg0] at c1 c2 c3 HS
      clear hg0 hkl
      have HE := Lib.hid he
      have HB := Lib.hid b0
      clear he h1 b0 b1 b2
      cases x
      · have HZ : Hid ((p.ps.take (k + 1)).all prB = false) := by rw [HS.out, HA.out]; rfl
        go_wp2_with fail
        go_roundg g
        case rel => exact ⟨k + 1, false, by omega, by go_num, rfl, HE.out.alloc _, HZ⟩
        case measure => exact Nat.lt_succ_self _
      cases h1 : decide (0 ≤ g0.pa)
      · have HZ : Hid ((p.ps.take (k + 1)).all prB = false) := by rw [HS.out, HA.out, prB, h1]; rfl
        go_wp2_with fail
        go_roundg g
        case rel => exact ⟨k + 1, false, by omega, by go_num, rfl, HE.out.alloc _, HZ⟩
        case measure => exact Nat.lt_succ_self _
      cases h2 : decide (g0.pa ≤ g0.rg)
      · have HZ : Hid ((p.ps.take (k + 1)).all prB = false) := by rw [HS.out, HA.out, prB, h1, h2]; rfl
        go_wp2_with fail
        go_roundg g
        case rel => exact ⟨k + 1, false, by omega, by go_num, rfl, HE.out.alloc _, HZ⟩
        case measure => exact Nat.lt_succ_self _
      cases h3 : decide (g0.rg ≤ 500)
      · have HZ : Hid ((p.ps.take (k + 1)).all prB = false) := by rw [HS.out, HA.out, prB, h1, h2, h3]; rfl
        go_wp2_with fail
        go_roundg g
        case rel => exact ⟨k + 1, false, by omega, by go_num, rfl, HE.out.alloc _, HZ⟩
        case measure => exact Nat.lt_succ_self _
      · have HZ : Hid ((p.ps.take (k + 1)).all prB = true) := by rw [HS.out, HA.out, prB, h1, h2, h3]; rfl
        go_wp2_with fail
        go_roundg g
        case rel => exact ⟨k + 1, true, by omega, by go_num, rfl, HE.out.alloc _, HZ⟩
        case measure => exact Nat.lt_succ_self _
set_option maxRecDepth 100000 in
set_option maxHeartbeats 8000000 in
theorem chk_toolong (p : Pg) (f0 : Pr) (tl : List Pr) (hp : p.ps = f0 :: tl) (vp vi vt : Value) (w : World) (h : Lies w vp vi vt p) (hs : Few p) (h0 : (f0.pa == 0) = true) (hz : ∀ s ∈ p.ts, s.size ≤ 9223372036854775807) (h1 : longB p.ts = true) :
    Calls Tryz.prog 12 #[.agg #[vp, vi, vt]] w fun e w' => e = .returned (.int .i64 2) ∧ Ext w w' := by
  obtain ⟨q, c, rfl, hq⟩ := h.ps
  obtain ⟨b, o, rfl, hx⟩ := hq (by rw [hp]; simp)
  clear hq
  obtain ⟨qi, ci, rfl⟩ := h.is
  obtain ⟨qt, ct, rfl, hqt⟩ := h.ts
  clear hqt
  obtain ⟨n, hn⟩ : ∃ n, p.ps.length = n := ⟨_, rfl⟩
  obtain ⟨nt, hnt⟩ : ∃ n, p.ts.length = n := ⟨_, rfl⟩
  have n1 : 1 ≤ n := by rw [← hn, hp]; simp
  have n2 : n ≤ 1000 := by rw [← hn]; exact hs.np
  have nt2 : nt ≤ 1000 := by rw [← hnt]; exact hs.nt
  have ni2 : p.ni ≤ 1000 := hs.ni
  have c0 : w.cell? ⟨b, o, none⟩ = some (.int .i64 f0.pa) := by
    have := (hx 0 (by omega)).1
    simpa [hp] using this
  have lb := cell_lt c0
  simp only at lb
  have HX := Lib.hid hx
  have H := Lib.hid h
  clear hx h
  rw [hn, hnt] at H
  rw [hn, hnt]
  have HN := Lib.hid hn
  have HT := Lib.hid hnt
  clear hn hnt
  have d1 : decide ((n : Int) < 1) = false := decide_eq_false (by omega)
  have d2 : decide (1000 < (n : Int)) = false := decide_eq_false (by omega)
  have d3 : (f0.pa != 0) = false := by simpa using h0
  obtain ⟨m, hm⟩ : ∃ m, cntTo p.ps p.ps.length = m := ⟨_, rfl⟩
  have m2 : m ≤ 20000 := by
    have := hs.tot
    omega
  have cC := fun W (hE : Ext w W) => count_any p.ps _ (.slice qi p.ni ci) (.slice qt nt ct) W (H.out.ps.ext hE) (Nat.le_trans hs.np (by omega)) hs.nc
  rw [hm] at cC
  have s1 : IntKind.i64.wrap ((m : Int) + (p.ni : Int)) = (m : Int) + (p.ni : Int) := IntWalk.i64_in _ (by omega)
  have s2 : IntKind.i64.wrap ((m : Int) + (p.ni : Int) + (nt : Int)) = (m : Int) + (p.ni : Int) + (nt : Int) := IntWalk.i64_in _ (by omega)
  have d4 : decide (65536 < (m : Int) + (p.ni : Int) + (nt : Int)) = false := decide_eq_false (by omega)
  clear hm
  go_enter Tryz.func12, Tryz.ntmps12
  go_wp2_with fail
  go_step3
  go_wp2_with fail
  refine wp_region_ext (by kernel_rfl) (by kernel_rfl) ?_
  repeat (
    first
      | go_big_quiet_skip
      | (go_big_quiet_want
         go_big_quiet_op
         first
           | go_big_quiet_on
           | (apply Exists.intro
              refine ⟨fun wq hq => ?_, ?_⟩
              focus (
                have q1 := (Ext.cells hq).1
                have q2 := (Ext.cells hq).2
                first
                  | ((go_at_call 13; exact Calls.ext_of hq (cC _ (((Ext.refl w).alloc _).trans hq))); done)
                  | (go_simp; exact rfl))
              go_big_quiet_on)))
  refine wpQuiet_nil ?_
  intro we hwe
  clear cC s1 s2 d1 d2 d3 d4 m2 c0
  have k0 : Ext w we := ((Ext.refl w).alloc _).trans hwe
  have b0 := hwe.cell (a := ⟨w.heap.size, 0, none⟩) (v := .slice (some ⟨b, o, none⟩) n c) (by go_simp)
  have b1 := hwe.cell (a := ⟨w.heap.size, 1, none⟩) (v := (.slice qi p.ni ci)) (by go_simp)
  have b2 := hwe.cell (a := ⟨w.heap.size, 2, none⟩) (v := .slice qt nt ct) (by go_simp)
  clear hwe
  go_wp2_with fail
  refine (contains_some p.ts _ we (H.out.ts.ext k0) (Nat.le_trans hs.nt (by omega)) hz h1).mono ?_
  rintro e w2 ⟨rfl, hw2⟩
  obtain rfl := hw2.symm
  clear hw2
  go_wp2_with fail
  clear h1 hz
  go_loopg [3, 49] n (fun g s3 s49 wr => ∃ (k : Nat), k + g = n ∧ s49 = .int .i64 k ∧ s3 = .bool false ∧ Ext w wr)
  case atStart => exact ⟨0, by omega, rfl, rfl, k0⟩
  case round =>
    obtain ⟨k, hkg, rfl, rfl, he⟩ := hrel
    cases gk with
    | zero =>
      obtain rfl : k = n := by omega
      have hkz : ¬ ((k : Int) < (k : Int)) := by omega
      go_wp2_with fail
      try rw [Exit.noGoto_ret]
      go_ret
      exact ⟨rfl, he⟩
    | succ g =>
      have hkz : (k : Int) < (n : Int) := by omega
      have hkn : k < n := by omega
      have hkl : k < p.ps.length := by rw [HN.out]; omega
      obtain ⟨q1, cc, c1, c2, c3, c4⟩ := proto_at HX.out k hkl
      clear c4
      replace c1 := he.cell c1
      replace c2 := he.cell c2
      replace c3 := he.cell c3
      obtain ⟨g0, hg0⟩ : ∃ g0, p.ps[k] = g0 := ⟨_, rfl⟩
      rw [hg0] at c1 c2 c3
      clear hg0 hkl
      have HE := Lib.hid he
      clear he b0 b1 b2
      go_wp2_with fail
      go_roundg g
      case rel => exact ⟨k + 1, by omega, by go_num, rfl, HE.out.alloc _⟩
      case measure => exact Nat.lt_succ_self _
set_option maxRecDepth 100000 in
set_option maxHeartbeats 8000000 in
theorem chk_good (p : Pg) (f0 : Pr) (tl : List Pr) (hp : p.ps = f0 :: tl) (vp vi vt : Value) (w : World) (h : Lies w vp vi vt p) (hs : Sm p) (h0 : (f0.pa == 0) = true) (h1 : p.ps.all prB = true) :
    Calls Tryz.prog 12 #[.agg #[vp, vi, vt]] w fun e w' => e = .returned (.int .i64 (if p.ps.all (okP p) then 0 else 2)) ∧ Ext w w' := by
  obtain ⟨q, c, rfl, hq⟩ := h.ps
  obtain ⟨b, o, rfl, hx⟩ := hq (by rw [hp]; simp)
  clear hq
  obtain ⟨qi, ci, rfl⟩ := h.is
  obtain ⟨qt, ct, rfl, hqt⟩ := h.ts
  clear hqt
  obtain ⟨n, hn⟩ : ∃ n, p.ps.length = n := ⟨_, rfl⟩
  obtain ⟨nt, hnt⟩ : ∃ n, p.ts.length = n := ⟨_, rfl⟩
  have n1 : 1 ≤ n := by rw [← hn, hp]; simp
  have n2 : n ≤ 1000 := by rw [← hn]; exact hs.np
  have nt2 : nt ≤ 1000 := by rw [← hnt]; exact hs.nt
  have ni2 : p.ni ≤ 1000 := hs.ni
  have c0 : w.cell? ⟨b, o, none⟩ = some (.int .i64 f0.pa) := by
    have := (hx 0 (by omega)).1
    simpa [hp] using this
  have lb := cell_lt c0
  simp only at lb
  have HX := Lib.hid hx
  have H := Lib.hid h
  clear hx h
  rw [hn, hnt] at H
  rw [hn, hnt]
  have HN := Lib.hid hn
  have HT := Lib.hid hnt
  clear hn hnt
  have d1 : decide ((n : Int) < 1) = false := decide_eq_false (by omega)
  have d2 : decide (1000 < (n : Int)) = false := decide_eq_false (by omega)
  have d3 : (f0.pa != 0) = false := by simpa using h0
  obtain ⟨m, hm⟩ : ∃ m, cntTo p.ps p.ps.length = m := ⟨_, rfl⟩
  have m2 : m ≤ 20000 := by
    have := hs.tot
    omega
  have cC := fun W (hE : Ext w W) => count_any p.ps _ (.slice qi p.ni ci) (.slice qt nt ct) W (H.out.ps.ext hE) (Nat.le_trans hs.np (by omega)) hs.nc
  rw [hm] at cC
  have s1 : IntKind.i64.wrap ((m : Int) + (p.ni : Int)) = (m : Int) + (p.ni : Int) := IntWalk.i64_in _ (by omega)
  have s2 : IntKind.i64.wrap ((m : Int) + (p.ni : Int) + (nt : Int)) = (m : Int) + (p.ni : Int) + (nt : Int) := IntWalk.i64_in _ (by omega)
  have d4 : decide (65536 < (m : Int) + (p.ni : Int) + (nt : Int)) = false := decide_eq_false (by omega)
  clear hm
  go_enter Tryz.func12, Tryz.ntmps12
  go_wp2_with fail
  go_step3
  go_wp2_with fail
  refine wp_region_ext (by kernel_rfl) (by kernel_rfl) ?_
  repeat (
    first
      | go_big_quiet_skip
      | (go_big_quiet_want
         go_big_quiet_op
         first
           | go_big_quiet_on
           | (apply Exists.intro
              refine ⟨fun wq hq => ?_, ?_⟩
              focus (
                have q1 := (Ext.cells hq).1
                have q2 := (Ext.cells hq).2
                first
                  | ((go_at_call 13; exact Calls.ext_of hq (cC _ (((Ext.refl w).alloc _).trans hq))); done)
                  | (go_simp; exact rfl))
              go_big_quiet_on)))
  refine wpQuiet_nil ?_
  intro we hwe
  clear cC s1 s2 d1 d2 d3 d4 m2 c0
  have k0 : Ext w we := ((Ext.refl w).alloc _).trans hwe
  have b0 := hwe.cell (a := ⟨w.heap.size, 0, none⟩) (v := .slice (some ⟨b, o, none⟩) n c) (by go_simp)
  have b1 := hwe.cell (a := ⟨w.heap.size, 1, none⟩) (v := (.slice qi p.ni ci)) (by go_simp)
  have b2 := hwe.cell (a := ⟨w.heap.size, 2, none⟩) (v := .slice qt nt ct) (by go_simp)
  clear hwe
  go_wp2_with fail
  refine (contains_none p.ts _ we (H.out.ts.ext k0) (Nat.le_trans hs.nt (by omega)) hs.sz).mono ?_
  rintro e w2 ⟨rfl, hw2⟩
  obtain rfl := hw2.symm
  clear hw2
  go_wp2_with fail
  go_loopg [3, 49] n (fun g s3 s49 wr => ∃ (k : Nat), k + g = n ∧ s49 = .int .i64 k ∧ s3 = .bool true ∧ Ext we wr)
  case atStart => exact ⟨0, by omega, rfl, rfl, Ext.refl _⟩
  case round =>
    obtain ⟨k, hkg, rfl, rfl, he⟩ := hrel
    cases gk with
    | succ g =>
      have hkz : (k : Int) < (n : Int) := by omega
      have hkn : k < n := by omega
      have hkl : k < p.ps.length := by rw [HN.out]; omega
      obtain ⟨q1, cc, c1, c2, c3, c4⟩ := proto_at HX.out k hkl
      clear c4
      replace c1 := he.cell (k0.cell c1)
      replace c2 := he.cell (k0.cell c2)
      replace c3 := he.cell (k0.cell c3)
      have hb : prB p.ps[k] = true := by rw [List.all_eq_true] at h1; exact h1 _ (List.getElem_mem hkl)
      obtain ⟨g0, hg0⟩ : ∃ g0, p.ps[k] = g0 := ⟨_, rfl⟩
      rw [hg0] at c1 c2 c3 hb
      clear hg0 hkl
      simp only [prB, Bool.and_eq_true] at hb
      obtain ⟨⟨z1, z2⟩, z3⟩ := hb
      have HE := Lib.hid he
      clear he h1 b0 b1 b2
      go_wp2_with fail
      go_roundg g
      case rel => exact ⟨k + 1, by omega, by go_num, rfl, HE.out.alloc _⟩
      case measure => exact Nat.lt_succ_self _
    | zero =>
      obtain rfl : k = n := by omega
      have hkz : ¬ ((k : Int) < (k : Int)) := by omega
      replace b0 := he.cell b0
      replace b1 := he.cell b1
      replace b2 := he.cell b2
      replace k0 := k0.trans he
      clear he
      go_wp2_with fail
      go_step3
      go_wp2_with fail
      obtain ⟨wb, rfl⟩ : ∃ wb : World, wb = wr := ⟨_, rfl⟩
      go_loopg [3, 77] k (fun g s3 s77 wr => ∃ (j : Nat), j + g = k ∧ s77 = .int .i64 j ∧ s3 = .bool true ∧ Ext wb wr ∧ Hid ((p.ps.take j).all (okP p) = true))
      case atStart => exact ⟨0, by omega, rfl, rfl, Ext.refl _, rfl⟩
      case round =>
        obtain ⟨j, hjg, rfl, rfl, he, HA⟩ := hrel
        cases gk with
        | zero =>
          obtain rfl : j = k := by omega
          have HZ : Hid (p.ps.all (okP p) = true) := by rw [← HA.out, List.take_of_length_le (by rw [HN.out]; exact Nat.le_refl _)]; rfl
          replace k0 := k0.trans he
          clear he b0 b1 b2
          go_wp2_with fail
          try rw [Exit.noGoto_ret]
          go_ret
          exact ⟨by rw [HZ.out]; rfl, k0⟩
        | succ g =>
          have hjn : j < k := by omega
          have hjz : (j : Int) < (k : Int) := by omega
          have hkl : j < p.ps.length := by rw [HN.out]; omega
          obtain ⟨q1, cc, c1, c2, c3, c4⟩ := proto_at HX.out j hkl
          replace c1 := he.cell (k0.cell c1)
          replace c2 := he.cell (k0.cell c2)
          replace c3 := he.cell (k0.cell c3)
          replace c4 := c4.ext (k0.trans he)
          replace b0 := he.cell b0
          replace b1 := he.cell b1
          replace b2 := he.cell b2
          replace k0 := k0.trans he
          have HS := Lib.hid (all_take p.ps (okP p) j hkl)
          have HO := Lib.hid (all_no p.ps (okP p) j hkl)
          have hbd := Lib.hid (chk_bounds h1 _ (List.getElem_mem hkl))
          have hln := hs.nc _ (List.getElem_mem hkl)
          obtain ⟨g0, hg0⟩ : ∃ g0, p.ps[j] = g0 := ⟨_, rfl⟩
          rw [hg0] at c1 c2 c3 c4 HS HO hbd hln
          have HEO := Lib.hid he
          clear hg0 hkl he
          have ce := fun W (hW : Ext wr W) => ends_any g0.cd _ W (c4.ext hW) (Nat.le_trans hln (by omega))
          have C4 := Lib.hid c4
          clear c4
          have l0 := cell_lt c1
          have l1 := cell_lt b0
          simp only at l0 l1
          go_wp2_with fail
          refine (ce _ (((Ext.refl _).alloc _).alloc _)).mono ?_
          rintro e w2 ⟨rfl, hw2⟩
          clear ce
          cases hend : endB g0.cd
          · obtain rfl := hw2.symm
            clear hw2
            have HZ : Hid (p.ps.all (okP p) = false) := HO.out (by simp [okP, hend])
            go_wp2_with fail
            try rw [Exit.noGoto_ret]
            go_ret
            exact ⟨by rw [HZ.out]; rfl, (k0.alloc _).alloc _⟩
          · obtain ⟨mc, hmc⟩ : ∃ mc, g0.cd.length = mc := ⟨_, rfl⟩
            have hmc1 : 1 ≤ mc := by
              rcases Nat.eq_zero_or_pos mc with h0 | h0
              · rw [h0] at hmc
                rw [List.eq_nil_of_length_eq_zero hmc] at hend
                cases hend
              · exact h0
            obtain ⟨q2, c5, he5, hq5⟩ := C4.out
            cases he5
            obtain ⟨cb, co, rfl, hc5⟩ := hq5 (by rw [hmc]; exact hmc1)
            have HC := Lib.hid hc5
            clear hc5 hq5
            rw [hmc] at hw2 hln C4 c3 ⊢
            have HM := Lib.hid hmc
            clear hmc
            have k2 : Ext w w2 := hw2 ▸ (k0.alloc _).alloc _
            have kr : Ext wr w2 := hw2 ▸ ((Ext.refl wr).alloc _).alloc _
            have f2 : w2.cell? ⟨wr.heap.size, 2, none⟩ = some (.slice (some ⟨cb, co, none⟩) mc cc) := by rw [hw2]; go_simp
            have x0 : w2.cell? ⟨wr.heap.size + 1, 0, none⟩ = some (.slice (some ⟨b, o, none⟩) k c) := by rw [hw2]; go_simp
            have x1 : w2.cell? ⟨wr.heap.size + 1, 1, none⟩ = some (.slice qi p.ni ci) := by rw [hw2]; go_simp
            have x2 : w2.cell? ⟨wr.heap.size + 1, 2, none⟩ = some (.slice qt nt ct) := by rw [hw2]; go_simp
            have x3 : w2.cell? ⟨wr.heap.size + 1, 3, none⟩ = some (.int .i64 g0.pa) := by rw [hw2]; go_simp
            have x4 : w2.cell? ⟨wr.heap.size + 1, 4, none⟩ = some (.int .i64 g0.rg) := by rw [hw2]; go_simp
            have x5 : w2.cell? ⟨wr.heap.size + 1, 5, none⟩ = some (.slice (some ⟨cb, co, none⟩) mc cc) := by rw [hw2]; go_simp
            have LI := Lib.hid (H.out.ext k2)
            have CA := Lib.hid (C4.out.ext kr)
            have HWB := Lib.hid (HEO.out.trans kr)
            have HC2 := Lib.hid (fun (i : Nat) (hi : i < g0.cd.length) => (⟨kr.cell (HC.out i hi).1, kr.cell (HC.out i hi).2.1, kr.cell (HC.out i hi).2.2.1, kr.cell (HC.out i hi).2.2.2⟩ : _ ∧ _ ∧ _ ∧ _))
            clear hw2 c1 c2 c3 l0 l1 b0 b1 b2 kr k0
            obtain ⟨wq, rfl⟩ : ∃ wq : World, wq = wr := ⟨_, rfl⟩
            go_wp2_with fail
            go_loopg [3, 92] mc (fun g3 s3 s92 wx => ∃ (i : Nat), i + g3 = mc ∧ s92 = .int .i64 i ∧ s3 = .bool true ∧ Ext w2 wx ∧ Hid ((g0.cd.take i).all (insB p g0) = true))
            case atStart => exact ⟨0, by omega, rfl, rfl, Ext.refl _, rfl⟩
            case round =>
              obtain ⟨i, hig, rfl, rfl, he, HI⟩ := hrel
              cases gk with
              | zero =>
                obtain rfl : i = mc := by omega
                have hiz : ¬ ((i : Int) < (i : Int)) := by omega
                have HZ : Hid ((p.ps.take (j + 1)).all (okP p) = true) := by
                  have h3 : g0.cd.all (insB p g0) = true := by rw [← HI.out, List.take_of_length_le (by rw [HM.out]; exact Nat.le_refl _)]
                  rw [HS.out, HA.out, okP, hend, h3]; rfl
                have HE2 := Lib.hid (HWB.out.trans he)
                clear he x0 x1 x2 x3 x4 x5 f2
                go_wp2_with fail
                go_roundg g
                case rel => exact ⟨j + 1, by omega, by go_num, rfl, HE2.out, HZ⟩
                case measure => exact Nat.lt_succ_self _
              | succ g3 =>
                have him : i < mc := by omega
                have hiz : (i : Int) < (mc : Int) := by omega
                have hil : i < g0.cd.length := by rw [HM.out]; exact him
                obtain ⟨y0, y1, y2, y3⟩ := HC2.out i hil
                replace y0 := he.cell y0
                replace y1 := he.cell y1
                replace y2 := he.cell y2
                replace y3 := he.cell y3
                replace x0 := he.cell x0
                replace x1 := he.cell x1
                replace x2 := he.cell x2
                replace x3 := he.cell x3
                replace x4 := he.cell x4
                replace x5 := he.cell x5
                have lx := cell_lt x0
                have ly := cell_lt y0
                simp only at lx ly
                have HP := Lib.hid (all_take g0.cd (insB p g0) i hil)
                have HQ := Lib.hid (all_no g0.cd (insB p g0) i hil)
                obtain ⟨i0, hi0⟩ : ∃ i0, g0.cd[i] = i0 := ⟨_, rfl⟩
                rw [hi0] at y0 y1 y2 y3 HP HQ
                clear hi0 hil f2
                have HE3 := Lib.hid he
                clear he
                cases hins : insB p g0 i0
                · have HZ : Hid (p.ps.all (okP p) = false) := HO.out (by rw [okP, HQ.out hins, Bool.and_false])
                  replace hins := Lib.hid hins
                  go_wp2_with fail
                  refine (instr_all p (.slice (some ⟨b, o, none⟩) k c) (.slice qi p.ni ci) (.slice qt nt ct) (.slice (some ⟨cb, co, none⟩) mc cc) g0 i0 false hins.out _ (LI.out.ext (HE3.out.alloc _)) (CA.out.ext (HE3.out.alloc _)) hbd.out).mono ?_
                  rintro e w4 ⟨rfl, e4⟩
                  have HE4 := Lib.hid (k2.trans ((HE3.out.alloc _).trans e4))
                  clear x0 x1 x2 x3 x4 x5 y0 y1 y2 y3 lx ly k2 e4
                  go_wp2_with fail
                  try rw [Exit.noGoto_ret]
                  go_ret
                  exact ⟨by rw [HZ.out]; rfl, HE4.out⟩
                · have HZ : Hid ((g0.cd.take (i + 1)).all (insB p g0) = true) := by rw [HP.out, HI.out, hins]; rfl
                  replace hins := Lib.hid hins
                  go_wp2_with fail
                  refine (instr_all p (.slice (some ⟨b, o, none⟩) k c) (.slice qi p.ni ci) (.slice qt nt ct) (.slice (some ⟨cb, co, none⟩) mc cc) g0 i0 true hins.out _ (LI.out.ext (HE3.out.alloc _)) (CA.out.ext (HE3.out.alloc _)) hbd.out).mono ?_
                  rintro e w4 ⟨rfl, e4⟩
                  have HE4 := Lib.hid ((HE3.out.alloc _).trans e4)
                  clear x0 x1 x2 x3 x4 x5 y0 y1 y2 y3 lx ly k2 e4
                  go_wp2_with fail
                  go_roundg g3
                  case rel => exact ⟨i + 1, by omega, by go_num, rfl, HE4.out, HZ⟩
                  case measure => exact Nat.lt_succ_self _
def chkP (p : Pg) : Bool := !longB p.ts && chkB p
theorem sm_of {p : Pg} (hs : Few p) (h : longB p.ts = false) : Sm p := ⟨hs, fun s hm => by
 rw [longB, List.any_eq_false] at h
 have := h s hm
 simp at this
 omega⟩
theorem chk_any (p : Pg) (vp vi vt : Value) (w : World) (h : Lies w vp vi vt p) (hs : Few p) (hz : ∀ s ∈ p.ts, s.size ≤ 9223372036854775807) :
  Calls Tryz.prog 12 #[.agg #[vp, vi, vt]] w fun e w' => e = .returned (.int .i64 (if chkP p then 0 else 2)) ∧ Ext w w' := by
 cases hp : p.ps with
 | nil =>
  have e : chkP p = false := by simp [chkP, chkB, hp]
  rw [e]
  exact chk_none vp vi vt w (hp ▸ h.ps)
 | cons f0 tl =>
  cases h0 : (f0.pa == 0)
  ·rw [chkP, chk_eq p f0 tl hp, h0, Bool.false_and, Bool.false_and, Bool.and_false]
   exact chk_head p f0 tl hp vp vi vt w h hs h0
  cases hl : longB p.ts
  rotate_left
  ·rw [chkP, hl]
   exact chk_toolong p f0 tl hp vp vi vt w h hs h0 hz hl
  cases h1 : p.ps.all prB
  ·rw [chkP, hl, chk_eq p f0 tl hp, h0, h1]
   exact chk_bad p f0 tl hp vp vi vt w h (sm_of hs hl) h0 h1
  ·rw [chkP, hl, chk_eq p f0 tl hp, h0, h1]
   exact chk_good p f0 tl hp vp vi vt w h (sm_of hs hl) h0 h1
end Go.Proofs.YtfjipoijbmmjcaaGreatDoor
