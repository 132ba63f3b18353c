/- Printed and read: in plain words. Words: which words may be printed, in the program. strings.Builder within a struct of its own: copyCheck, WriteByte, WriteString, String (the shelf's walk, turned to this program's own numbers). Words: a text as a word, in the program. -/
import Derived.Test.YtkbcnacjaakleaaGreatDoorYP30
import Derived.Test.YtkbcnacjaakleaaGreatDoorYP31
import Derived.Test.YtkbcnacjaakleaaGreatDoorYP12
import Derived.Test.YtkbcnacjaakleaaGreatDoorYP11
import Derived.Test.YtkbcnacjaakleaaGreatDoorYP08
import Derived.Test.YtkbcnacjaakleaaGreatDoorYP00
import Derived.Test.YtkbcnacjaakleaaGreatDoorYShelf
import Derived.Lib.Builder
import Derived.Lib.AppendStr
import Derived.Lib.UnsafeStr
import Derived.Laws.Externs
import Derived.Test.YtkbcnacjaakleaaGreatDoorYP10
set_option maxRecDepth 100000
set_option maxHeartbeats 32000000
set_option linter.unusedVariables false
set_option linter.unusedSimpArgs false
namespace Go.Proofs.YtkbcnacjaakleaaGreatDoor

theorem alike_get : ∀ (m l : List Wd), alikeL m l = true → m.length = l.length ∧ ∀ i (h : i < l.length), ∃ w, m[i]? = some w ∧ w.k = l[i].k ∧ w.t = l[i].t ∧ w.n = l[i].n
 | [], [], _ => ⟨rfl, fun i h => by simp at h⟩
 | [], y :: l, h => by simp [alikeL] at h
 | x :: m, [], h => by simp [alikeL] at h
 | x :: m, y :: l, h => by
  simp only [alikeL, alikeW, Bool.and_eq_true, decide_eq_true_eq] at h
  obtain ⟨h1, h2⟩ := alike_get m l h.2
  refine ⟨by simp [h1], fun i hi => ?_⟩
  cases i with
  | zero => exact ⟨x, rfl, h.1.1.1, h.1.1.2, h.1.2⟩
  | succ i =>
   simp only [List.length_cons] at hi
   have := h2 i (by omega)
   simpa using this
theorem parse_print {x : Nd} (h : checkN x = true) (hs : SzN x) (hj : (joinP (tellN x)).length ≤ 1048576) : parseR (joinP (tellN x)) = .ok x := by
 have hm : mayN x = true := by
  simp only [checkN, Bool.and_eq_true] at h
  exact h.2
 have ha := tell_may x hm hs
 obtain ⟨m, h1, h2⟩ := lexS_join (tellN x) ha.all (fun w hw => (ha w hw).2)
 obtain ⟨h3, h4⟩ := alike_get m _ h2
 unfold parseR
 rw [if_neg (by omega), h1]
 have ht : treeR ⟨m, ((joinP (tellN x)).length : Nat)⟩ = .ok x := tree_rt h (fun i hi => by
  obtain ⟨w, hw, g⟩ := h4 i hi
  exact ⟨w, by rw [Nat.zero_add]; exact hw, g⟩) h3
 simp only [ht]
 rw [if_pos h]
/-! ### What is read is small -/
theorem phi_len (z : Wz) : Phi z z.ws.length ≤ 16 * z.ws.length + 8 * (z.ws.map fun w => (toldP w).length).sum := by
 unfold Phi
 rw [List.take_length]
 generalize z.ws = l
 induction l with
 | nil => simp
 | cons x l ih => simp only [List.map_cons, List.sum_cons, List.length_cons]; omega
theorem join_ge : ∀ l : List Wd, l.all mayP = true → l.length + (l.map fun w => (toldP w).length).sum ≤ (joinP l).length + 1 ∧ l.length ≤ (joinP l).length
 | [], _ => by simp [joinP]
 | [w], h => by
  have := told_pos (w := w) (by simpa using h)
  simp [joinP]; omega
 | w :: v :: l, h => by
  simp only [List.all_cons, Bool.and_eq_true] at h
  have ih := join_ge (v :: l) (by simp only [List.all_cons, Bool.and_eq_true]; exact h.2)
  have := told_pos h.1
  simp only [joinP, List.length_append, List.length_cons, List.map_cons, List.sum_cons] at ih ⊢
  omega
theorem size_mem : ∀ (l : List ByteArray), ∀ s ∈ l, s.size ≤ (l.map ByteArray.size).sum
 | [], s, hs => by simp at hs
 | y :: l, s, hs => by
  simp only [List.map_cons, List.sum_cons]
  rcases List.mem_cons.1 hs with rfl | hs
  ·omega
  ·have := size_mem l s hs; omega
theorem cnt_pos (x : Nd) : 1 ≤ cntN x := by cases x; simp only [cntN]; omega
theorem len_cnt : ∀ l : List Nd, l.length ≤ cntL l
 | [] => by simp
 | y :: l => by
  have := cnt_pos y
  have := len_cnt l
  simp only [cntL, List.length_cons]; omega
mutual
theorem kn_sz : ∀ (x : Nd), KnN x → txN x ≤ 140737488355328 → cntN x ≤ 140737488355328 → SzN x
 | .mk k nm tx n ns kids, hk, ht, hc => by
  simp only [KnN] at hk
  simp only [txN] at ht
  simp only [cntN] at hc
  have h1 := kn_szL kids hk.2 (by omega) (by omega)
  have h2 := len_cnt kids
  simp only [SzN]
  exact ⟨⟨⟨by omega, by omega⟩, ⟨by omega, by omega⟩, by omega, by omega, by omega, fun s hs => by have := size_mem ns s hs; omega, by omega⟩, h1⟩
theorem kn_szL : ∀ (l : List Nd), KnL l → txL l ≤ 140737488355328 → cntL l ≤ 140737488355328 → SzL l
 | [], _, _, _ => by simp only [SzL]
 | x :: l, hk, ht, hc => by
  simp only [KnL] at hk
  simp only [txL] at ht
  simp only [cntL] at hc
  simp only [SzL]
  exact ⟨kn_sz x hk.1 (by omega) (by omega), kn_szL l hk.2 (by omega) (by omega)⟩
end
theorem lex_phi {l : List UInt8} {ws : List Wd} (h : lexS l = .ok ws) (long : Int) : (∀ w ∈ ws, 0 ≤ w.n ∧ w.n ≤ 9223372036854775807) ∧ Phi ⟨ws, long⟩ ws.length ≤ 512 * l.length + 8 ∧ ws.length ≤ 21 * l.length := by
 obtain ⟨h1, h2, h3⟩ := lexS_may h
 obtain ⟨h4, h5⟩ := join_ge ws h1
 have h6 := phi_len ⟨ws, long⟩
 simp only at h6
 refine ⟨fun w hw => ⟨?_, h2 w hw⟩, by omega, by omega⟩
 have := List.all_eq_true.1 h1 w hw
 unfold mayP at this
 split at this
 ·simp only [Bool.and_eq_true, decide_eq_true_eq] at this; omega
 split at this
 ·simp only [Bool.and_eq_true, decide_eq_true_eq] at this; omega
 split at this
 ·simp only [Bool.and_eq_true, decide_eq_true_eq] at this; omega
 split at this
 ·simp only [decide_eq_true_eq] at this; omega
 split at this
 ·simp only [Bool.and_eq_true, decide_eq_true_eq] at this; omega
 ·cases this
theorem tree_sz {l : List UInt8} {ws : List Wd} (hl : l.length ≤ 1048576) (h : lexS l = .ok ws) {long : Int} {x : Nd} (hx : treeR ⟨ws, long⟩ = .ok x) : SzN x ∧ wtN x ≤ 512 * l.length + 9 := by
 obtain ⟨h1, h2, _⟩ := lex_phi h long
 obtain ⟨h3, h4⟩ := tree_phi (z := ⟨ws, long⟩) h1 hx
 simp only at h3
 have h5 : wtN x = tlen (tellN x) + txN x + cntN x := rfl
 exact ⟨kn_sz x h4 (by omega) (by omega), by omega⟩
theorem parse_ok {l : List UInt8} {x : Nd} (h : parseR l = .ok x) : l.length ≤ 1048576 ∧ checkN x = true ∧ SzN x ∧ wtN x ≤ 512 * l.length + 9 := by
 unfold parseR at h
 split at h
 ·cases h
 split at h
 ·cases h
 rename_i ws h1
 split at h
 ·cases h
 rename_i y h2
 split at h
 ·rename_i hc
  cases h
  obtain ⟨h3, h4⟩ := tree_sz (by omega) h1 h2
  exact ⟨by omega, hc, h3, h4⟩
 ·cases h
theorem back_plain {l : List UInt8} (hl : l.length ≤ 2000) {x : Nd} (h : parseR l = .ok x) : (joinP (tellN x)).length ≤ 1048576 ∧ parseR (joinP (tellN x)) = .ok x := by
 obtain ⟨_, h1, h2, h3⟩ := parse_ok h
 have h4 := tlen_join (tellN x)
 have h5 : wtN x = tlen (tellN x) + txN x + cntN x := rfl
 have h6 : (joinP (tellN x)).length ≤ 1048576 := by omega
 exact ⟨h6, parse_print h1 h2 h6⟩
open Go.RowKit

theorem signs_has (t : List UInt8) : Lib.containsS (signW.take 24) ⟨t.toArray⟩ = signB t := by
 rw [Bool.eq_iff_iff, Lib.containsS_iff]
 show (⟨t.toArray⟩ : ByteArray) ∈ signW.take 24 ↔ _
 rw [List.take_of_length_le (by decide)]
 unfold signB signW
 rw [List.any_eq_true]
 constructor
 ·intro h
  obtain ⟨x, hx, he⟩ := List.mem_map.1 h
  refine ⟨x, hx, ?_⟩
  injection he with he
  have := congrArg Array.toList he
  simpa using this
 ·rintro ⟨x, hx, he⟩
  rw [beq_iff_eq] at he
  exact List.mem_map.2 ⟨x, hx, by rw [he]⟩
theorem sign_cell {w : World} {g : Nat} {ty : TypeId} (h : Blk w g ty signV) : ∀ j, j < signW.length → w.cell? ⟨g, 0 + j, none⟩ = some (.string (signW.getD j ByteArray.empty)) := by
 intro j hj
 rw [Nat.zero_add, h.cell]
 unfold signV
 rw [List.getElem?_toArray, List.getElem?_map, List.getElem?_eq_getElem hj, List.getD_eq_getElem?_getD, List.getElem?_eq_getElem hj]
 rfl
theorem size_drew_alloc (w : World) (o : Obj) : (w.alloc o).drew.heap.size = w.heap.size + 1 := size_alloc w o
theorem may_not {x : Wd} (h : x.n ≠ 0) (hk : x.k ≠ 2) : mayP x = false := by
 unfold mayP
 rw [if_neg hk]
 simp [h]
theorem may_other {x : Wd} (h0 : x.k ≠ 0) (h1 : x.k ≠ 1) (h2 : x.k ≠ 2) (h3 : x.k ≠ 3) (h4 : x.k ≠ 4) : mayP x = false := by
 unfold mayP
 rw [if_neg h0, if_neg h1, if_neg h2, if_neg h3, if_neg h4]
theorem may_any (w : World) (x : Wd) (hL : Laid w) : Calls Tryz.prog 82 #[.agg #[.int .i64 x.k, .string ⟨x.t.toArray⟩, .int .i64 x.n, .int .i64 x.a]] w fun e w' => e = .returned (.bool (mayP x)) ∧ Ext w w' := by
 obtain ⟨k, t, n, a⟩ := x
 have HL := Lib.hid hL
 clear hL
 obtain ⟨r, hr⟩ : ∃ r, mayP ⟨k, t, n, a⟩ = r := ⟨_, rfl⟩
 obtain ⟨T, hT⟩ : ∃ T : ByteArray, ⟨t.toArray⟩ = T := ⟨_, rfl⟩
 have hTt : T.data.toList = t := by rw [← hT]
 rw [hr]
 dsimp only
 rw [hT]
 have HR := Lib.hid hr
 have HT := Lib.hid hT
 have HTT := Lib.hid hTt
 clear hr hT hTt
 have HE0 : Hid (∀ o, Ext w (w.alloc o)) := Lib.hid fun o => (Ext.refl w).alloc o
 by_cases h2 : k = 2
 ·subst h2
  by_cases ht : T.size = 0
  ·have e0 : T.toList.isEmpty = true := by rw [str_empty, ht]; rfl
   have ht0 : t = [] := by rw [← HTT.out]; exact List.eq_nil_of_length_eq_zero ht
   have HB : Hid (r = decide (0 ≤ n)) := Lib.hid (by rw [← HR.out]; simp [mayP, ht0])
   clear ht0
   go_enter Tryz.func82, Tryz.ntmps82
   go_wp2_with fail
   go_ret
   exact ⟨ret_of (bool_eq (by first | exact HB.out.symm | (rw [HB.out]))), HE0.out _⟩
  ·have e0 : T.toList.isEmpty = false := by rw [str_empty]; exact decide_eq_false ht
   have HB : Hid (r = false) := Lib.hid (by
    rw [← HR.out]
    have : t.isEmpty = false := by
     cases t with
     | nil => exact absurd (by have := congrArg List.length HTT.out; exact this) ht
     | cons c t => rfl
    simp [mayP, this])
   clear ht
   go_enter Tryz.func82, Tryz.ntmps82
   go_wp2_with fail
   go_ret
   exact ⟨ret_of (bool_eq (by first | exact HB.out.symm | (rw [HB.out]))), HE0.out _⟩
 ·have g2 : (k == 2) = false := by rw [beq_eq_false_iff_ne]; exact h2
  have g2n : (k != 2) = true := by simp [bne, g2]
  by_cases hn : n = 0
  ·subst hn
   have hc : k = 0 ∨ k = 1 ∨ k = 3 ∨ k = 4 ∨ (k ≠ 0 ∧ k ≠ 1 ∧ k ≠ 3 ∧ k ≠ 4) := by omega
   rcases hc with rfl | rfl | rfl | rfl | ⟨h0, h1, h3, h4⟩
   ·have HB : Hid (r = nameP t) := Lib.hid (by rw [← HR.out]; simp [mayP])
    clear h2 g2 g2n
    go_enter Tryz.func82, Tryz.ntmps82
    go_wp2_with fail
    refine (name_any _ T (HL.out.asc.ext (HE0.out _))).mono ?_
    rintro e w1 ⟨rfl, he⟩
    rw [HTT.out]
    have HE := Lib.hid he
    clear he
    go_wp2_with fail
    go_ret
    exact ⟨ret_of (bool_eq HB.out.symm), (HE0.out _).trans HE.out⟩
   ·have HB : Hid (r = keyB t) := Lib.hid (by rw [← HR.out]; simp [mayP])
    clear h2 g2 g2n
    obtain ⟨b, hb⟩ : ∃ b, keyB t = b := ⟨_, rfl⟩
    have hk := any_keyW T
    rw [HTT.out, hb] at hk
    have HK := Lib.hid hb
    clear hb
    cases b
    ·have HKK := Lib.hid hk
     clear hk
     go_enter Tryz.func82, Tryz.ntmps82
     go_wp2_with fail
     go_region_with (go_at_call 139; refine (language_any _ (by first | exact HL.out.asc.ext (HE0.out _).drew | exact HL.out.asc.ext (HE0.out _))).mono ?_; rintro e w1 ⟨rfl, he, hm⟩; (first | rw [size_drew_alloc] at hm | rw [size_alloc] at hm); have c6 := cell_of_ext (b := w.heap.size) (o := 1) (v := .string T) (by go_simp) he; have lk := run_lookup_none Tryz.underlying70 Tryz.underlying9 rfl _ 19 _ (.string T) (.int .i64 0) (zero_int w1) hm (ones_no T keyW HKK.out) false; simp only [Bool.false_eq_true, if_false] at lk; have HE := Lib.hid he; clear he hm)
     all_goals
      go_wp2_with fail
      go_ret
      exact ⟨ret_of (bool_eq (by rw [HB.out, HK.out])), by first | exact (HE0.out _).drew.trans HE.out | exact ((HE0.out _).drew.trans HE.out).drew⟩
    ·have HKK := Lib.hid hk
     clear hk
     go_enter Tryz.func82, Tryz.ntmps82
     go_wp2_with fail
     go_region_with (go_at_call 139; refine (language_any _ (by first | exact HL.out.asc.ext (HE0.out _).drew | exact HL.out.asc.ext (HE0.out _))).mono ?_; rintro e w1 ⟨rfl, he, hm⟩; (first | rw [size_drew_alloc] at hm | rw [size_alloc] at hm); have c6 := cell_of_ext (b := w.heap.size) (o := 1) (v := .string T) (by go_simp) he; have lk := run_lookup_lit Tryz.underlying70 Tryz.underlying9 rfl _ 19 _ (.string T) (.int .i64 1) hm (ones_yes T keyW HKK.out) false; simp only [Bool.false_eq_true, if_false] at lk; have HE := Lib.hid he; clear he hm)
     all_goals
      go_wp2_with fail
      go_ret
      exact ⟨ret_of (bool_eq (by rw [HB.out, HK.out])), by first | exact (HE0.out _).drew.trans HE.out | exact ((HE0.out _).drew.trans HE.out).drew⟩
   ·have HB : Hid (r = true) := Lib.hid (by rw [← HR.out]; simp [mayP])
    clear h2 g2 g2n
    go_enter Tryz.func82, Tryz.ntmps82
    go_wp2_with fail
    go_ret
    exact ⟨ret_of (bool_eq HB.out.symm), HE0.out _⟩
   ·have HB : Hid (r = Lib.containsS (signW.take 24) T) := Lib.hid (by rw [← HR.out, ← HT.out, signs_has]; simp [mayP])
    clear h2 g2 g2n
    obtain ⟨hz, hs⟩ := zero_of_info zeroS
    have HS := Lib.hid hs
    clear hs
    go_enter Tryz.func82, Tryz.ntmps82
    go_wp2_with fail
    refine (signs_any _).mono ?_
    rintro e w1 ⟨rfl, he⟩
    have c1 := cell_of_ext (b := w.heap.size) (o := 1) (v := .string T) (by go_simp) he
    have HC1 := Lib.hid c1
    have HE := Lib.hid he
    have hlt : w.heap.size < w1.heap.size := by have := he.le; rw [size_alloc] at this; omega
    clear he c1
    go_wp2_with (first
     | (refine wpList_store_row rfl 183 _ _ rfl w1.heap.size rfl signV signZ rfl _ (new_at rfl _) (HS.out.trans (by rw [signV_size])) (by kernel_rfl) (by kernel_rfl) ?_))
    obtain ⟨w2, hw2⟩ : ∃ w2, ((w1.alloc (.cells signZ 183)).setRow w1.heap.size signV) = w2 := ⟨_, rfl⟩
    have B2 : Blk w2 w1.heap.size 183 signV := by rw [← hw2]; exact Blk.setRow (cs := signZ) (new_at rfl _) _
    have HE2 : Hid (Ext w1 w2) := Lib.hid (by rw [← hw2]; exact ((Ext.refl w1).alloc _).setRow (Nat.le_refl _) _)
    have c2 := cell_of_ext HC1.out HE2.out
    have hc := sign_cell B2
    have con := fun W (hE : Ext w2 W) => Tryz.slices_Contains_string w1.heap.size 0 24 24 signW T W (by decide) (by decide) (fun j hj => cell_of_ext (hc j hj) hE)
    have CON := Lib.hid con
    rw [hw2]
    clear hw2 con hc
    go_wp2_with fail
    go_quiet (first | (go_at_call 158; refine Calls.quiet_of_same (CON.out _ ((Ext.refl _).drewN _))))
    go_wp2_with fail
    go_ret
    exact ⟨ret_of (bool_eq HB.out.symm), ((HE0.out _).trans (HE.out.trans HE2.out)).drewN _⟩
   ·have HB : Hid (r = false) := Lib.hid (by rw [← HR.out]; exact may_other h0 h1 h2 h3 h4)
    have g0 : (k == 0) = false := by rw [beq_eq_false_iff_ne]; exact h0
    have g1 : (k == 1) = false := by rw [beq_eq_false_iff_ne]; exact h1
    have g3 : (k == 3) = false := by rw [beq_eq_false_iff_ne]; exact h3
    have g4 : (k == 4) = false := by rw [beq_eq_false_iff_ne]; exact h4
    clear h0 h1 h2 h3 h4
    go_enter Tryz.func82, Tryz.ntmps82
    go_wp2_with fail
    go_ret
    exact ⟨ret_of (bool_eq HB.out.symm), HE0.out _⟩
  ·have gn : (n == 0) = false := by rw [beq_eq_false_iff_ne]; exact hn
   have gnn : (n != 0) = true := by simp [bne, gn]
   have HB : Hid (r = false) := Lib.hid (by rw [← HR.out]; exact may_not hn h2)
   clear h2 hn
   go_enter Tryz.func82, Tryz.ntmps82
   go_wp2_with fail
   go_ret
   exact ⟨ret_of (bool_eq HB.out.symm), HE0.out _⟩
end Go.Proofs.YtkbcnacjaakleaaGreatDoor
namespace Go.Proofs.YtkbcnacjaakleaaGreatDoor
open Go.Shelf Go.RowKit

theorem sizeBld : (Tryz.prog.info? 190).map (·.size) = some 2 := by kernel_rfl
theorem liesBld : liesAt Tryz.prog Tryz.prog.depth 230 (2 / Tryz.prog.cellsOf 230) 0 190 1 = true := by kernel_rfl
abbrev BldAt (B b : Nat) (p : Value) (l : List UInt8) (w : World) : Prop := Lib.BuilderAt 230 5 B b p (Lib.byteCells l) w
def BldIs (B b : Nat) (l : List UInt8) (w : World) : Prop := ∃ p, (p = .pointer none ∨ p = .pointer (some ⟨b, 0, none⟩)) ∧ BldAt B b p l w
theorem bcheck_used (b : Nat) (w : World) (h0 : w.cell? ⟨b, 0, none⟩ = some (.pointer (some ⟨b, 0, none⟩))) :
  Calls Tryz.prog 219 #[.pointer (some ⟨b, 0, none⟩)] w fun e w' => e = .returned (.tuple #[]) ∧ w' = w := by
 obtain ⟨j, hj, _⟩ := Option.map_eq_some_iff.1 sizeBld
 go_enter Tryz.func219, Tryz.ntmps219
 go_wp2
 rw [Lib.run_neq_ptr_same w _ Tryz.underlying188 hj]
 go_wp2
 go_end0
 exact ⟨rfl, rfl⟩
theorem bcheck_fresh (b : Nat) (w : World) (h0 : w.cell? ⟨b, 0, none⟩ = some (.pointer none)) (hsh : w.shape? b = some (230, 2)) (hfz : w.frozen? ⟨b, 0, none⟩ = false) :
  Calls Tryz.prog 219 #[.pointer (some ⟨b, 0, none⟩)] w fun e w' => e = .returned (.tuple #[]) ∧ w' = w.setCell ⟨b, 0, none⟩ (.pointer (some ⟨b, 0, none⟩)) := by
 obtain ⟨j, hj, hjs⟩ := Option.map_eq_some_iff.1 sizeBld
 go_enter Tryz.func219, Tryz.ntmps219
 go_wp2
 rw [Lib.run_to_unsafe w ⟨b, 0, none⟩ Tryz.underlying188 Tryz.underlying261 hj (by rw [hjs]; decide) hsh (Nat.zero_lt_succ 1)]
 simp only [Result.andThen]
 rw [Oper.upon_value]
 go_wp2
 rw [run_callFunc_extern Tryz.func263 (by kernel_rfl) (by kernel_rfl) (by kernel_rfl) (e := Extern.AbiNoEscape.same) (by kernel_rfl)]
 rw [Lib.run_noEscape]
 simp only [Result.andThen]
 rw [Oper.upon_value]
 go_wp2
 rw [Lib.run_from_unsafe w ⟨b, 0, none⟩ Tryz.underlying261 Tryz.underlying188 hj hsh liesBld]
 simp only [Result.andThen]
 rw [Oper.upon_value]
 go_wp2
 go_end0
 exact ⟨rfl, rfl⟩
theorem bcheck_any (B b : Nat) (l : List UInt8) (w : World) (h : BldIs B b l w) :
  Calls Tryz.prog 219 #[.pointer (some ⟨b, 0, none⟩)] w fun e w' => e = .returned (.tuple #[]) ∧ (BldAt B b (.pointer (some ⟨b, 0, none⟩)) l w' ∧ Below B w w') := by
 obtain ⟨p, rfl | rfl, h⟩ := h
 ·refine (bcheck_fresh b w h.cell0 h.shape h.frozen0).mono ?_
  rintro e w' ⟨rfl, rfl⟩
  exact ⟨rfl, h.used _, (Below.refl B w).setCell (p := ⟨b, 0, none⟩) h.1 _⟩
 ·refine (bcheck_used b w h.cell0).mono ?_
  rintro e w' ⟨rfl, rfl⟩
  exact ⟨rfl, h, Below.refl B _⟩
theorem bstr_any (B b : Nat) (l m : List UInt8) (w : World) (h : BldIs B b l w) (hlen : l.length + m.length ≤ 140737488355328) (hBw : B ≤ w.heap.size) :
  Calls Tryz.prog 162 #[.pointer (some ⟨b, 0, none⟩), .string ⟨m.toArray⟩] w fun e w' => (∃ n : Int, e = .returned (.tuple #[.int .i64 n, .nilIface])) ∧ (BldIs B b (l ++ m) w' ∧ Below B w w') := by
 obtain ⟨i0, hi, hz0, hz1, hz2⟩ := info_parts infoU8
 have hl1 := Lib.byteCells_length l
 obtain ⟨s, hs⟩ : ∃ s : ByteArray, ⟨m.toArray⟩ = s := ⟨_, rfl⟩
 have hsz : s.size = m.length := by rw [← hs]; rfl
 have hsc : Lib.strCells s = Lib.byteCells m := by rw [← hs, Lib.strCells_eq]
 rw [hs]
 clear hs
 go_enter Tryz.func162, Tryz.ntmps162
 go_wp2_with (go_at_call 219; refine (bcheck_any B b l _ h).mono ?_)
 rintro e w1 ⟨rfl, h1, hb1⟩
 obtain ⟨hB, v, hbk, hown, hne⟩ := h1
 have c0 : w1.cell? ⟨b, 0, none⟩ = some (.pointer (some ⟨b, 0, none⟩)) := by rw [Lib.cell_of_heap hbk]; rfl
 have c1 : w1.cell? ⟨b, 1, none⟩ = some v := by rw [Lib.cell_of_heap hbk]; rfl
 go_wp2_with (at_builtin; refine Lib.wpList_append_own_string _ rfl _ _ 142 9 rfl B 5 i0 Tryz.underlying142 Tryz.underlying9 hi hz0 hz1 hz2 _ _ _ rfl hown s rfl ?c3 ?c4 ?c5 ?_)
 case c3 => unfold maxLen; omega
 case c4 => omega
 case c5 => have := hb1.size; omega
 intro v' w2 hown' hgrow _
 have hlt : b < w1.heap.size := by
  rcases Nat.lt_or_ge b w1.heap.size with h' | h'
  ·exact h'
  ·simp [Array.getElem?_eq_none h'] at hbk
 have hb2 : w2.heap[b]? = some (.cells #[.pointer (some ⟨b, 0, none⟩), v] 230 (0, 0)) := by
  rw [hgrow.block b hlt (fun e => hne e.symm)]
  exact hbk
 have d0 : w2.cell? ⟨b, 0, none⟩ = some (.pointer (some ⟨b, 0, none⟩)) := by rw [Lib.cell_of_heap hb2]; rfl
 have d1 : w2.cell? ⟨b, 1, none⟩ = some v := by rw [Lib.cell_of_heap hb2]; rfl
 have f1 : w2.frozen? ⟨b, 1, none⟩ = false := Lib.frozen_of_heap hb2 1
 obtain ⟨ao, n', cap, rfl⟩ : ∃ ao n' cap, v' = .slice ao n' cap := by
  rcases hown'.2 with ⟨hv, _⟩ | ⟨g, cap, cur, hv, _⟩
  ·exact ⟨_, _, _, hv⟩
  ·exact ⟨_, _, _, hv⟩
 go_wp2
 go_ret2
 refine ⟨⟨_, rfl⟩, ⟨_, .inr rfl, ?_⟩, ?_⟩
 ·have ho : w2.ownsRow B 5 1 (Value.slice ao n' cap) (Lib.byteCells (l ++ m)).length (Lib.byteCells (l ++ m)) := by
   rw [Lib.byteCells_length, List.length_append, Lib.byteCells_append]
   first
    | exact hown'
    | (rw [hsc] at hown'; exact hown')
    | (rw [hsc, hsz, hl1] at hown'; exact hown')
  exact Lib.BuilderAt.put (T := 230) (e := 5) hB hb2 (bs' := Lib.byteCells (l ++ m)) ho (by decide)
 ·exact (hb1.grown hgrow (by have := hb1.size; omega) (fun k hk => (hown.lt k hk).1)).setCell (p := ⟨b, 1, none⟩) hB _
theorem bbyte_any (B b : Nat) (l : List UInt8) (c : UInt8) (w : World) (h : BldIs B b l w) (hlen : l.length + 1 ≤ 140737488355328) (hBw : B ≤ w.heap.size) :
  Calls Tryz.prog 217 #[.pointer (some ⟨b, 0, none⟩), .int .u8 c.toNat] w fun e w' => e = .returned .nilIface ∧ (BldIs B b (l ++ [c]) w' ∧ Below B w w') := by
 have hl1 := Lib.byteCells_length l
 go_enter Tryz.func217, Tryz.ntmps217
 go_wp2_with (go_at_call 219; refine (bcheck_any B b l _ h).mono ?_)
 rintro e w1 ⟨rfl, h1, hb1⟩
 obtain ⟨hB, v, hbk, hown, hne⟩ := h1
 have c0 : w1.cell? ⟨b, 0, none⟩ = some (.pointer (some ⟨b, 0, none⟩)) := by rw [Lib.cell_of_heap hbk]; rfl
 have c1 : w1.cell? ⟨b, 1, none⟩ = some v := by rw [Lib.cell_of_heap hbk]; rfl
 have hO : OwnB w1 B v l := by unfold OwnB; rw [hl1] at hown; exact hown
 obtain ⟨v', w2, hrun, happ⟩ := app_lit w1 142 B v l [c] hO (by have := hb1.size; omega) (by simpa using hlen)
 have hlt : b < w1.heap.size := by
  rcases Nat.lt_or_ge b w1.heap.size with h' | h'
  ·exact h'
  ·simp [Array.getElem?_eq_none h'] at hbk
 have hba : (w1.alloc (.cells (Lib.byteCells [c]).toArray 5)).heap[b]? = some (.cells #[.pointer (some ⟨b, 0, none⟩), v] 230 (0, 0)) := by
  rw [((Ext.refl w1).alloc _).block b hlt]; exact hbk
 have hb2 : w2.heap[b]? = some (.cells #[.pointer (some ⟨b, 0, none⟩), v] 230 (0, 0)) := by
  rw [happ.grow.block b (by rw [size_alloc]; omega) (fun e => hne e.symm)]
  exact hba
 have d0 : w2.cell? ⟨b, 0, none⟩ = some (.pointer (some ⟨b, 0, none⟩)) := by rw [Lib.cell_of_heap hb2]; rfl
 have d1 : w2.cell? ⟨b, 1, none⟩ = some v := by rw [Lib.cell_of_heap hb2]; rfl
 have f1 : w2.frozen? ⟨b, 1, none⟩ = false := Lib.frozen_of_heap hb2 1
 have HRUN := Lib.hid hrun
 clear hrun
 obtain ⟨q, cap, rfl⟩ := happ.own.slice
 go_wp2_with (at_builtin; refine wpList_append_run rfl _ _ 142 rfl _ _ _ _ rfl rfl HRUN.out ?_)
 go_ret
 refine ⟨rfl, ⟨_, .inr rfl, ?_⟩, ?_⟩
 ·have ho := happ.own
  unfold OwnB at ho
  exact Lib.BuilderAt.put (T := 230) (e := 5) hB hb2 (bs' := Lib.byteCells (l ++ [c])) (by rw [Lib.byteCells_length, show l.length + 1 = (l ++ [c]).length by simp]; exact ho) (by decide)
 ·exact ((hb1.alloc (by have := hb1.size; omega) _).grown happ.grow (by have := hb1.size; rw [size_alloc]; omega) (fun k hk => happ.row k hk)).setCell (p := ⟨b, 1, none⟩) hB _
theorem cellsByte : Tryz.prog.cellsOf 5 = 1 := by kernel_rfl
theorem bstring_any (B b : Nat) (l : List UInt8) (w : World) (h : BldIs B b l w) (h0 : l ≠ []) :
  Calls Tryz.prog 163 #[.pointer (some ⟨b, 0, none⟩)] w fun e w' => e = .returned (.string ⟨l.toArray⟩) ∧ Below B w w' := by
 obtain ⟨p, _, hB, v, hbk, hown, hne⟩ := h
 have hl0 : l.length ≠ 0 := by simpa using h0
 rw [Lib.byteCells_length] at hown
 obtain ⟨g, cap, cur, rfl, hbg, hg, hnc, hcm, hcs, htake⟩ : ∃ g cap cur, v = .slice (some ⟨g, 0, none⟩) l.length cap ∧ B ≤ g ∧ w.heap[g]? = some (.cells cur 5 (0, 0)) ∧ l.length ≤ cap ∧ cap ≤ maxLen ∧ cur.size = cap * 1 ∧ cur.toList.take (l.length * 1) = Lib.byteCells l := by
  rcases hown.2 with ⟨_, hz⟩ | ⟨g, cap, cur, hv, r⟩
  ·exact absurd hz hl0
  ·exact ⟨g, cap, cur, hv, r⟩
 have c1 : w.drew.cell? ⟨b, 1, none⟩ = some (.slice (some ⟨g, 0, none⟩) l.length cap) := by
  have : w.drew.heap[b]? = some (.cells #[p, .slice (some ⟨g, 0, none⟩) l.length cap] 230 (0, 0)) := hbk
  rw [Lib.cell_of_heap this]; rfl
 have hSD : (Builtin.unsafeSliceData_ #[142] 233 #[.slice (some ⟨g, 0, none⟩) l.length cap]).run Tryz.prog w.drew = .ok (.pointer (some ⟨g, 0, none⟩)) w.drew :=
  Lib.run_unsafeSliceData_row _ _ _ _ _ _ (by omega)
 have hUS : (Builtin.unsafeString_ #[233, 3] 9 #[.pointer (some ⟨g, 0, none⟩), .int .i64 l.length]).run Tryz.prog w.drew = .ok (.string ⟨l.toArray⟩) (w.drew.freeze ⟨g, 0, none⟩ l.length) := by
  refine Lib.run_unsafeString_row w.drew 233 3 9 5 Tryz.underlying233 cellsByte g cur.size (by have hg' : w.drew.heap[g]? = some (.cells cur 5 (0, 0)) := hg; simp [World.shape?, hg']) l h0 (by omega) (by unfold maxLen at hcm; omega) ?_
  intro j x hx
  have := hown.cells (g := g) rfl j (.int .u8 x.toNat) (by simp [Lib.byteCells, hx])
  exact this
 go_enter Tryz.func163, Tryz.ntmps163
 go_wp2
 go_region
 all_goals (go_wp2; go_ret; exact ⟨rfl, Lib.below_freeze (Below.drew (Below.refl B w)) (p := ⟨g, 0, none⟩) hbg _⟩)
theorem bld_new (w : World) : BldIs w.heap.size w.heap.size [] (w.alloc (.cells #[.pointer none, .slice none 0 0] 230)) := by
 rcases Lib.fresh_isBuilder 230 5 w with h | h
 ·exact ⟨_, .inl rfl, h⟩
 ·exact ⟨_, .inr rfl, h⟩
end Go.Proofs.YtkbcnacjaakleaaGreatDoor
namespace Go.Proofs.YtkbcnacjaakleaaGreatDoor
open Go.RowKit

theorem flat_len (l : List UInt8) : (l.flatMap quoB).length ≤ 4 * l.length := by
 have := quote_len l
 simp only [quoteP, List.length_cons, List.length_append, List.length_nil] at this
 omega
theorem flat_snoc {l : List UInt8} {k : Nat} (h : k < l.length) : (l.take (k + 1)).flatMap quoB = (l.take k).flatMap quoB ++ quoB l[k] := by
 rw [List.take_succ_eq_append_getElem h, List.flatMap_append]
 simp
theorem itoa_three : ∀ n : Fin 256, Lib.itoa (1000 + (n.val : Int)) = [49, UInt8.ofNat (48 + n.val / 100), UInt8.ofNat (48 + n.val / 10 % 10), UInt8.ofNat (48 + n.val % 10)] := by decide +kernel
theorem its_three (c : UInt8) : itS (1000 + (c.toNat : Int)) = ⟨#[49, UInt8.ofNat (48 + c.toNat / 100), UInt8.ofNat (48 + c.toNat / 10 % 10), UInt8.ofNat (48 + c.toNat % 10)]⟩ := by
 have := itoa_three ⟨c.toNat, c.toNat_lt⟩
 unfold itS
 rw [this]
theorem ext_below {w a b : World} {B : Nat} (hB : w.heap.size = B) (h : Ext w a) (k : Below B a b) : Ext w b := by
 subst hB
 exact Below.trans h k
theorem BldIs.ext {B b : Nat} {l : List UInt8} {w w' : World} (h : BldIs B b l w) (he : Ext w w') : BldIs B b l w' := by
 obtain ⟨p, hp, hB, v, hbk, hown, hne⟩ := h
 refine ⟨p, hp, hB, v, ?_, own_ext hown he, hne⟩
 have hlt : b < w.heap.size := by
  rcases Nat.lt_or_ge b w.heap.size with h' | h'
  ·exact h'
  ·simp [Array.getElem?_eq_none h'] at hbk
 rw [he.block b hlt]
 exact hbk
theorem bbyte_at (B b : Nat) (l : List UInt8) (c : UInt8) (x : Value) (hx : x = .int .u8 c.toNat) (w : World) (h : BldIs B b l w) (hlen : l.length + 1 ≤ 140737488355328) (hBw : B ≤ w.heap.size) :
  Calls Tryz.prog 217 #[.pointer (some ⟨b, 0, none⟩), x] w fun e w' => e = .returned .nilIface ∧ (BldIs B b (l ++ [c]) w' ∧ Below B w w') := by
 subst hx
 exact bbyte_any B b l c w h hlen hBw
theorem quote_any (w : World) (s : ByteArray) (hs : s.size ≤ 1048576) (hP : Pow w) : Calls Tryz.prog 160 #[.string s] w fun e w' => e = .returned (.string ⟨(quoteP s.data.toList).toArray⟩) ∧ Ext w w' := by
 obtain ⟨n, hn⟩ : ∃ n, s.size = n := ⟨_, rfl⟩
 have hl : s.data.toList.length = n := hn
 obtain ⟨l, hL⟩ : ∃ l, s.data.toList = l := ⟨_, rfl⟩
 obtain ⟨B, hB⟩ : ∃ B, w.heap.size = B := ⟨_, rfl⟩
 rw [hL] at hl ⊢
 rw [hn] at hs
 have HL := Lib.hid hL
 have HLL := Lib.hid hl
 have HP := Lib.hid hP
 have H0 : Hid (BldIs w.heap.size w.heap.size [] (w.alloc (.cells #[.pointer none, .slice none 0 0] 230))) := Lib.hid (bld_new w)
 rw [hB] at H0
 have HBB := Lib.hid hB
 clear hL hl hP
 go_enter Tryz.func160, Tryz.ntmps160
 go_wp2_with fail
 refine (bbyte_at _ _ _ 39 _ rfl _ H0.out (by decide) (by rw [size_alloc]; omega)).mono ?_
 rintro e w1 ⟨rfl, hb1, he1⟩
 have HB1 := Lib.hid hb1
 have HE1 : Hid (Ext w w1) := Lib.hid (ext_below HBB.out ((Ext.refl w).alloc _) he1)
 clear hb1 he1
 go_wp2_with fail
 go_loopw [10] (fun i wr => ∃ (k : Nat) (cur : List UInt8), k ≤ n ∧ i = .int .i64 k ∧ Hid (39 :: (l.take k).flatMap quoB = cur) ∧ Hid (BldIs B B cur wr) ∧ Hid (Ext w wr)) (fun i _ => n - (intOf i).toNat)
 case atStart => exact ⟨0, [39], Nat.zero_le _, rfl, Lib.hid (by simp), HB1, HE1⟩
 case round =>
  obtain ⟨k, cur, hk, rfl, HC, HB, HE⟩ := hrel
  have hBs : B ≤ wr.heap.size := by have := HE.out.le; rw [← HBB.out]; exact this
  have hcl : cur.length ≤ 4 * k + 1 := by
   rw [← HC.out, List.length_cons]
   have h1 := flat_len (l.take k)
   have h2 : (l.take k).length ≤ k := by rw [List.length_take]; omega
   omega
  by_cases hkn : k < n
  ·have d1 : decide ((k : Int) < (n : Int)) = true := decide_eq_true (by omega)
   have d1n : decide (k < n) = true := decide_eq_true hkn
   have hks : k < s.size := by omega
   have hkl : k < l.length := by rw [HLL.out]; exact hkn
   obtain ⟨c, hc⟩ : ∃ c, s[k]'hks = c := ⟨_, rfl⟩
   have hlk : l[k] = c := by rw [← hc, ← str_get]; exact get_of HL.out.symm _
   have HN : Hid (39 :: (l.take (k + 1)).flatMap quoB = cur ++ quoB c) := Lib.hid (by rw [flat_snoc hkl, hlk, ← HC.out]; rfl)
   have hcn := c.toNat_lt
   clear hlk hkl HC
   by_cases e0 : c.toNat = 10
   ·have f0 : ((c.toNat : Int) == 10) = true := by rw [e0]; rfl
    have HQ : Hid (quoB c = [92, 110]) := Lib.hid (by unfold quoB; simp [*])
    clear e0
    go_wp2_with fail
    refine (bstr_any _ _ _ [92, 110] _ HB.out (by simp only [List.length_cons, List.length_nil]; omega) hBs).mono ?_
    rintro e w1 ⟨⟨z, he⟩, hb1, he1⟩
    subst he
    have HB1 := Lib.hid hb1
    have HE1 : Hid (Ext w w1) := Lib.hid (ext_below HBB.out HE.out he1)
    clear hb1 he1
    go_wp2_with fail
    go_roundw
    case rel => exact ⟨k + 1, _, hkn, by go_num, HN, Lib.hid (by rw [HQ.out]; exact HB1.out), HE1⟩
    case measure => simp [intOf]; omega
   ·have f0 : ((c.toNat : Int) == 10) = false := by rw [beq_eq_false_iff_ne]; omega
    by_cases e1 : c.toNat = 9
    ·have f1 : ((c.toNat : Int) == 9) = true := by rw [e1]; rfl
     have HQ : Hid (quoB c = [92, 116]) := Lib.hid (by unfold quoB; simp [*])
     clear e0 e1
     go_wp2_with fail
     refine (bstr_any _ _ _ [92, 116] _ HB.out (by simp only [List.length_cons, List.length_nil]; omega) hBs).mono ?_
     rintro e w1 ⟨⟨z, he⟩, hb1, he1⟩
     subst he
     have HB1 := Lib.hid hb1
     have HE1 : Hid (Ext w w1) := Lib.hid (ext_below HBB.out HE.out he1)
     clear hb1 he1
     go_wp2_with fail
     go_roundw
     case rel => exact ⟨k + 1, _, hkn, by go_num, HN, Lib.hid (by rw [HQ.out]; exact HB1.out), HE1⟩
     case measure => simp [intOf]; omega
    ·have f1 : ((c.toNat : Int) == 9) = false := by rw [beq_eq_false_iff_ne]; omega
     by_cases e2 : c.toNat = 13
     ·have f2 : ((c.toNat : Int) == 13) = true := by rw [e2]; rfl
      have HQ : Hid (quoB c = [92, 114]) := Lib.hid (by unfold quoB; simp [*])
      clear e0 e1 e2
      go_wp2_with fail
      refine (bstr_any _ _ _ [92, 114] _ HB.out (by simp only [List.length_cons, List.length_nil]; omega) hBs).mono ?_
      rintro e w1 ⟨⟨z, he⟩, hb1, he1⟩
      subst he
      have HB1 := Lib.hid hb1
      have HE1 : Hid (Ext w w1) := Lib.hid (ext_below HBB.out HE.out he1)
      clear hb1 he1
      go_wp2_with fail
      go_roundw
      case rel => exact ⟨k + 1, _, hkn, by go_num, HN, Lib.hid (by rw [HQ.out]; exact HB1.out), HE1⟩
      case measure => simp [intOf]; omega
     ·have f2 : ((c.toNat : Int) == 13) = false := by rw [beq_eq_false_iff_ne]; omega
      by_cases e3 : c.toNat = 39
      ·have f3 : ((c.toNat : Int) == 39) = true := by rw [e3]; rfl
       have HQ : Hid (quoB c = [92, c]) := Lib.hid (by unfold quoB; simp [*])
       clear e0 e1 e2 e3
       have hcl2 : (cur ++ [92]).length ≤ 4 * k + 2 := by simp; omega
       go_wp2_with fail
       refine (bbyte_at _ _ _ 92 _ rfl _ HB.out (by omega) hBs).mono ?_
       rintro e w1 ⟨rfl, hb1, he1⟩
       have HB1 := Lib.hid hb1
       have HE1 : Hid (Ext w w1) := Lib.hid (ext_below HBB.out HE.out he1)
       have hBs1 : B ≤ w1.heap.size := by have := HE1.out.le; rw [← HBB.out]; exact this
       clear hb1 he1
       go_wp2_with fail
       refine (bbyte_at _ _ _ c _ rfl _ HB1.out (by omega) hBs1).mono ?_
       rintro e w2 ⟨rfl, hb2, he2⟩
       have HB2 := Lib.hid hb2
       have HE2 : Hid (Ext w w2) := Lib.hid (ext_below HBB.out HE1.out he2)
       clear hb2 he2
       go_wp2_with fail
       go_roundw
       case rel => exact ⟨k + 1, _, hkn, by go_num, HN, Lib.hid (by rw [HQ.out]; have h := HB2.out; rw [List.append_assoc] at h; exact h), HE2⟩
       case measure => simp [intOf]; omega
      ·have f3 : ((c.toNat : Int) == 39) = false := by rw [beq_eq_false_iff_ne]; omega
       by_cases e4 : c.toNat = 92
       ·have f4 : ((c.toNat : Int) == 92) = true := by rw [e4]; rfl
        have HQ : Hid (quoB c = [92, c]) := Lib.hid (by unfold quoB; simp [*])
        clear e0 e1 e2 e3 e4
        have hcl2 : (cur ++ [92]).length ≤ 4 * k + 2 := by simp; omega
        go_wp2_with fail
        refine (bbyte_at _ _ _ 92 _ rfl _ HB.out (by omega) hBs).mono ?_
        rintro e w1 ⟨rfl, hb1, he1⟩
        have HB1 := Lib.hid hb1
        have HE1 : Hid (Ext w w1) := Lib.hid (ext_below HBB.out HE.out he1)
        have hBs1 : B ≤ w1.heap.size := by have := HE1.out.le; rw [← HBB.out]; exact this
        clear hb1 he1
        go_wp2_with fail
        refine (bbyte_at _ _ _ c _ rfl _ HB1.out (by omega) hBs1).mono ?_
        rintro e w2 ⟨rfl, hb2, he2⟩
        have HB2 := Lib.hid hb2
        have HE2 : Hid (Ext w w2) := Lib.hid (ext_below HBB.out HE1.out he2)
        clear hb2 he2
        go_wp2_with fail
        go_roundw
        case rel => exact ⟨k + 1, _, hkn, by go_num, HN, Lib.hid (by rw [HQ.out]; have h := HB2.out; rw [List.append_assoc] at h; exact h), HE2⟩
        case measure => simp [intOf]; omega
       ·have f4 : ((c.toNat : Int) == 92) = false := by rw [beq_eq_false_iff_ne]; omega
        by_cases e5 : c.toNat < 32
        ·have f5 : decide ((c.toNat : Int) < 32) = true := decide_eq_true (by omega)
         have f5n : decide (c.toNat < 32) = true := decide_eq_true e5
         have HQ : Hid (quoB c = 92 :: [UInt8.ofNat (48 + c.toNat / 100), UInt8.ofNat (48 + c.toNat / 10 % 10), UInt8.ofNat (48 + c.toNat % 10)]) := Lib.hid (by unfold quoB; simp [*])
         clear e0 e1 e2 e3 e4 e5
         have hcl2 : (cur ++ [92]).length ≤ 4 * k + 2 := by simp; omega
         obtain ⟨S4, hS4⟩ : ∃ S4, itS (1000 + (c.toNat : Int)) = S4 := ⟨_, rfl⟩
         have z4 : S4.size = 4 := by rw [← hS4, its_three]; rfl
         have HX : Hid (S4.extract 1 4 = ⟨([UInt8.ofNat (48 + c.toNat / 100), UInt8.ofNat (48 + c.toNat / 10 % 10), UInt8.ofNat (48 + c.toNat % 10)] : List UInt8).toArray⟩) := Lib.hid (by rw [← hS4, its_three]; rfl)
         have HS4 := Lib.hid hS4
         clear hS4
         go_wp2_with fail
         refine (bbyte_at _ _ _ 92 _ rfl _ HB.out (by omega) hBs).mono ?_
         rintro e w1 ⟨rfl, hb1, he1⟩
         have HB1 := Lib.hid hb1
         have HE1 : Hid (Ext w w1) := Lib.hid (ext_below HBB.out HE.out he1)
         have hBs1 : B ≤ w1.heap.size := by have := HE1.out.le; rw [← HBB.out]; exact this
         clear hb1 he1
         go_wp2_with fail
         refine (itoa_any (1000 + (c.toNat : Int)) _ (HP.out.ext HE1.out) (by omega) (by omega)).mono ?_
         rintro e w2 ⟨rfl, he2⟩
         have HB2 : Hid (BldIs B B (cur ++ [92]) w2) := Lib.hid (HB1.out.ext he2)
         have HE2 := Lib.hid (HE1.out.trans he2)
         have hBs2 : B ≤ w2.heap.size := by have := HE2.out.le; rw [← HBB.out]; exact this
         clear he2
         rw [HS4.out]
         go_wp2_with fail
         rw [HX.out]
         refine (bstr_any _ _ _ [UInt8.ofNat (48 + c.toNat / 100), UInt8.ofNat (48 + c.toNat / 10 % 10), UInt8.ofNat (48 + c.toNat % 10)] _ HB2.out (by simp only [List.length_cons, List.length_nil]; omega) hBs2).mono ?_
         rintro e w3 ⟨⟨z, he⟩, hb3, he3⟩
         subst he
         have HB3 := Lib.hid hb3
         have HE3 : Hid (Ext w w3) := Lib.hid (ext_below HBB.out HE2.out he3)
         clear hb3 he3
         go_wp2_with fail
         go_roundw
         case rel => exact ⟨k + 1, _, hkn, by go_num, HN, Lib.hid (by rw [HQ.out]; have h := HB3.out; rw [List.append_assoc] at h; exact h), HE3⟩
         case measure => simp [intOf]; omega
        ·have f5 : decide ((c.toNat : Int) < 32) = false := decide_eq_false (by omega)
         have f5n : decide (c.toNat < 32) = false := decide_eq_false e5
         by_cases e6 : 126 < c.toNat
         ·have f6 : decide ((126 : Int) < (c.toNat : Int)) = true := decide_eq_true (by omega)
          have f6n : decide (126 < c.toNat) = true := decide_eq_true e6
          have HQ : Hid (quoB c = 92 :: [UInt8.ofNat (48 + c.toNat / 100), UInt8.ofNat (48 + c.toNat / 10 % 10), UInt8.ofNat (48 + c.toNat % 10)]) := Lib.hid (by unfold quoB; simp [*])
          clear e0 e1 e2 e3 e4 e5 e6
          have hcl2 : (cur ++ [92]).length ≤ 4 * k + 2 := by simp; omega
          obtain ⟨S4, hS4⟩ : ∃ S4, itS (1000 + (c.toNat : Int)) = S4 := ⟨_, rfl⟩
          have z4 : S4.size = 4 := by rw [← hS4, its_three]; rfl
          have HX : Hid (S4.extract 1 4 = ⟨([UInt8.ofNat (48 + c.toNat / 100), UInt8.ofNat (48 + c.toNat / 10 % 10), UInt8.ofNat (48 + c.toNat % 10)] : List UInt8).toArray⟩) := Lib.hid (by rw [← hS4, its_three]; rfl)
          have HS4 := Lib.hid hS4
          clear hS4
          go_wp2_with fail
          refine (bbyte_at _ _ _ 92 _ rfl _ HB.out (by omega) hBs).mono ?_
          rintro e w1 ⟨rfl, hb1, he1⟩
          have HB1 := Lib.hid hb1
          have HE1 : Hid (Ext w w1) := Lib.hid (ext_below HBB.out HE.out he1)
          have hBs1 : B ≤ w1.heap.size := by have := HE1.out.le; rw [← HBB.out]; exact this
          clear hb1 he1
          go_wp2_with fail
          refine (itoa_any (1000 + (c.toNat : Int)) _ (HP.out.ext HE1.out) (by omega) (by omega)).mono ?_
          rintro e w2 ⟨rfl, he2⟩
          have HB2 : Hid (BldIs B B (cur ++ [92]) w2) := Lib.hid (HB1.out.ext he2)
          have HE2 := Lib.hid (HE1.out.trans he2)
          have hBs2 : B ≤ w2.heap.size := by have := HE2.out.le; rw [← HBB.out]; exact this
          clear he2
          rw [HS4.out]
          go_wp2_with fail
          rw [HX.out]
          refine (bstr_any _ _ _ [UInt8.ofNat (48 + c.toNat / 100), UInt8.ofNat (48 + c.toNat / 10 % 10), UInt8.ofNat (48 + c.toNat % 10)] _ HB2.out (by simp only [List.length_cons, List.length_nil]; omega) hBs2).mono ?_
          rintro e w3 ⟨⟨z, he⟩, hb3, he3⟩
          subst he
          have HB3 := Lib.hid hb3
          have HE3 : Hid (Ext w w3) := Lib.hid (ext_below HBB.out HE2.out he3)
          clear hb3 he3
          go_wp2_with fail
          go_roundw
          case rel => exact ⟨k + 1, _, hkn, by go_num, HN, Lib.hid (by rw [HQ.out]; have h := HB3.out; rw [List.append_assoc] at h; exact h), HE3⟩
          case measure => simp [intOf]; omega
         ·have f6 : decide ((126 : Int) < (c.toNat : Int)) = false := decide_eq_false (by omega)
          have f6n : decide (126 < c.toNat) = false := decide_eq_false e6
          have HQ : Hid (quoB c = [c]) := Lib.hid (by unfold quoB; simp [*])
          clear e0 e1 e2 e3 e4 e5 e6
          go_wp2_with fail
          refine (bbyte_at _ _ _ c _ rfl _ HB.out (by omega) hBs).mono ?_
          rintro e w1 ⟨rfl, hb1, he1⟩
          have HB1 := Lib.hid hb1
          have HE1 : Hid (Ext w w1) := Lib.hid (ext_below HBB.out HE.out he1)
          clear hb1 he1
          go_wp2_with fail
          go_roundw
          case rel => exact ⟨k + 1, _, hkn, by go_num, HN, Lib.hid (by rw [HQ.out]; exact HB1.out), HE1⟩
          case measure => simp [intOf]; omega
  ·obtain rfl : k = n := by omega
   have d1 : decide ((k : Int) < (k : Int)) = false := decide_eq_false (by omega)
   have HQ : Hid (quoteP l = cur ++ [39]) := Lib.hid (by rw [← HC.out, List.take_of_length_le (by rw [HLL.out]; exact Nat.le_refl _)]; simp [quoteP])
   go_wp2_with fail
   refine (bbyte_at _ _ _ 39 _ rfl _ HB.out (by omega) hBs).mono ?_
   rintro e w1 ⟨rfl, hb1, he1⟩
   have HB1 := Lib.hid hb1
   have HE1 : Hid (Ext w w1) := Lib.hid (ext_below HBB.out HE.out he1)
   clear hb1 he1
   go_wp2_with fail
   refine (bstring_any _ _ _ _ HB1.out (by simp)).mono ?_
   rintro e w2 ⟨rfl, he2⟩
   have HE2 : Hid (Ext w w2) := Lib.hid (ext_below HBB.out HE1.out he2)
   clear he2
   go_wp2_with fail
   go_ret
   rw [HQ.out]
   exact ⟨rfl, HE2.out⟩
end Go.Proofs.YtkbcnacjaakleaaGreatDoor
